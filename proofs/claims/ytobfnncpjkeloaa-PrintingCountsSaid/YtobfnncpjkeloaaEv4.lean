import Derived.Test.YtobfnncpjkeloaaEv3
namespace Go.Proofs.Ytobfnncpjkeloaa.Ev
open Go Go.RowKit Go.Proofs.YtobfnncpjkeloaaW.PrintLast
section sound
variable {nb : Nat} {P : Program} {w : World} {F : Nat → Prop} {β : Blocks} {E : En} {G : List (Nat × Bool)} {L : Globs} {H : Heap} {a : Act} {α : Type} {z : α}
theorem RN_bool {b : Bool} {v : Value} (h : RN nb w F β (.one (.bool b)) v) : v = .bool b := RV_bool h.1
theorem RN_int {k : IntKind} {n : Int} {v : Value} (h : RN nb w F β (.one (.int k n)) v) : v = .int k n := RV_int h.1
theorem RV_nils {v : Value} (h : RV w F β (.one .nils) v) : v = .slice none 0 0 := by
  have h' : RF w F .nils v := h
  cases h'; rfl
theorem gives {o : Oper} {v : PV} {u : Value} (h : RN nb w F β v u) (hr : ∀ w', Sees w F β H w' → (execOp a.eval o).run P w' = .ok (.value u) w') : Gives P nb w F β H a o v := ⟨u, h, hr⟩
theorem keyB_ok {ki : Bool} {s : PS} {u : Value} (h : RN nb w F β (.one s) u) (hk : keyB ki s = true) : KeyS ki s u := by
  unfold keyB at hk
  split at hk
  · rw [RN_int h]; exact .i _
  · rw [RV_str h.1]; exact .s _
  · cases hk
theorem zeroB_ok {vi : Bool} {t : TypeId} (hz : zeroB P t vi = true) {w' : World} : (zeroValue t).run P w' = .ok (zeroM vi) w' := by
  unfold zeroB at hz
  split at hz
  · rename_i i hi
    split at hz
    · rename_i n hv
      simp at hz
      obtain ⟨rfl, rfl⟩ := hz
      unfold zeroValue
      simp [Sem.run_bind, typeInfo, hi, hv, zeroM]
    · rename_i b hv
      simp at hz
      obtain ⟨rfl, rfl⟩ := hz
      unfold zeroValue
      simp [Sem.run_bind, typeInfo, hi, hv, zeroM]
    · cases hz
  · cases hz
theorem ex_lookup {x y : Operand} {t : TypeId} {m v : Value} {w' : World} {dst : Option Tmp} {ty : TypeId} {pos : String} {after : Array Edge} {guard : Option (Nat × Bool)} (hx : a.eval x = m) (h : (Instr.lookup t m (a.eval y) false).run P w' = .ok v w') : (execOp a.eval ⟨dst, .lookup t x y false, ty, pos, after, guard⟩).run P w' = .ok (.value v) w' := by
  simp [execOp, hx, h]
theorem RN_i {k : IntKind} {n : Int} : RN nb w F β (.one (.int k n)) (.int k n) := ⟨.int k n, rfl⟩
theorem RN_b {b : Bool} : RN nb w F β (.one (.bool b)) (.bool b) := ⟨.bool b, rfl⟩
theorem all2_extract {l : List PS} {m : List Value} (h : All2 (RS w F β) l m) (o n : Nat) : All2 (RS w F β) ((l.drop o).take n) (m.toArray.extract o (o + n)).toList := by
  have := (h.drop o).take n
  rw [Array.toList_extract, List.extract_eq_take_drop]
  rw [show o + n - o = n by omega]
  exact this
theorem vq_ok (hL : okG w F L) (hI : Inv nb w F β H) (hE : okE nb w F β a.tmps E) {C : Bool} {o : Oper} {k : PV → Option α} (h : vq P L E G C H o.op k = some z) : ∃ v, k v = some z ∧ (holdsG a.tmps G → C = true → Gives P nb w F β H a o v) := by
  obtain ⟨dst, op, ty, pos, after, guard⟩ := o
  simp only at h
  unfold vq at h
  split at h
  · -- move
    split at h
    · rename_i v hv
      exact ⟨v, h, fun hG _ => gives (opnd_ok hL hE hG hv) (fun _ _ => rfl)⟩
    · cases h
  · -- assign
    split at h
    · rename_i v hv
      exact ⟨v, h, fun hG _ => gives (opnd_ok hL hE hG hv) (fun _ _ => rfl)⟩
    · cases h
  · -- binOp
    rename_i B t x y t2
    split at h
    · rename_i k1 p k2 q hx hy
      split at h
      · rename_i hk
        subst hk
        split at h
        · rename_i f hf
          exact ⟨_, h, fun hG _ => gives RN_b (fun _ _ => ex_cmp hf (RN_int (opnd_ok hL hE hG hx)) (RN_int (opnd_ok hL hE hG hy)))⟩
        · split at h
          · rename_i f hf
            exact ⟨_, h, fun hG _ => gives RN_i (fun _ _ => ex_ari hf (RN_int (opnd_ok hL hE hG hx)) (RN_int (opnd_ok hL hE hG hy)))⟩
          · split at h
            · rename_i f hf
              obtain ⟨h1, h2⟩ := chk_some h
              exact ⟨_, h1, fun hG hC => gives RN_i (fun _ _ => ex_div hf (RN_int (opnd_ok hL hE hG hx)) (RN_int (opnd_ok hL hE hG hy)) (h2 hC))⟩
            · cases h
      · cases h
    · rename_i p q hx hy
      split at h
      · rename_i ht
        exact ⟨_, h, fun hG _ => gives RN_b (fun _ _ => ex_eqb (.inl rfl) ht (RN_bool (opnd_ok hL hE hG hx)) (RN_bool (opnd_ok hL hE hG hy)))⟩
      · rename_i ht
        exact ⟨_, h, fun hG _ => gives RN_b (fun _ _ => ex_eqb (.inr rfl) ht (RN_bool (opnd_ok hL hE hG hx)) (RN_bool (opnd_ok hL hE hG hy)))⟩
      · cases h
    · rename_i p q hx hy
      split at h
      · exact ⟨_, h, fun hG _ => gives RN_b (fun _ _ => ex_eqstr (.inl rfl) (RV_str (opnd_ok hL hE hG hx).1) (RV_str (opnd_ok hL hE hG hy).1))⟩
      · exact ⟨_, h, fun hG _ => gives RN_b (fun _ _ => ex_eqstr (.inr rfl) (RV_str (opnd_ok hL hE hG hx).1) (RV_str (opnd_ok hL hE hG hy).1))⟩
      · obtain ⟨h1, h2⟩ := chk_some h
        exact ⟨_, h1, fun hG hC => gives (RF.str _).toRN (fun _ _ => ex_cat (RV_str (opnd_ok hL hE hG hx).1) (RV_str (opnd_ok hL hE hG hy).1) (by simpa using h2 hC))⟩
      · cases h
    · rename_i l m hx hy
      split at h
      · rename_i fs neg ht hB
        split at h
        case isFalse => cases h
        rename_i hq
        split at h
        · rename_i r hr
          refine ⟨_, h, fun hG _ => ?_⟩
          obtain ⟨⟨ls, hls, h1⟩, _⟩ := opnd_ok hL hE hG hx
          obtain ⟨⟨ms, hms, h2⟩, _⟩ := opnd_ok hL hE hG hy
          exact gives RN_b (fun _ _ => ex_eqs hB ht hq.1 hq.2 hls hms (eqCells_ok hr h1 h2))
        · cases h
      · cases h
    · rename_i n e row hx hy
      split at h
      · rename_i te neg ht hB
        obtain ⟨h1, h2⟩ := chk_some h
        refine ⟨_, h1, fun hG hC => ?_⟩
        have h0 : 0 < n := by simpa using h2 hC
        obtain ⟨A, c, hv, _, h3⟩ := RV_view (opnd_ok hL hE hG hx).1
        obtain ⟨b, off, val, rfl, _⟩ := h3 h0
        exact gives RN_b (fun _ _ => ex_notnil hB ht hv (RV_nils (opnd_ok hL hE hG hy).1))
      · cases h
    · rename_i hx hy
      split at h
      · rename_i te neg ht hB
        exact ⟨_, h, fun hG hC => gives RN_b (fun _ _ => ex_nilnil hB ht (RV_nils (opnd_ok hL hE hG hx).1) (RV_nils (opnd_ok hL hE hG hy).1))⟩
      · cases h
    · rename_i o i hx hy
      split at h
      · rename_i te neg _ _ n st _ _ ht hB hc
        refine ⟨_, h, fun hG hC => ?_⟩
        have hO := (hI.obj o _ (findH_mem hc)).2
        obtain ⟨q1, A, c, q2, _, q3⟩ := fam_len hO (opnd_ok hL hE hG hx).1
        cases hst : st i with
        | false => exact gives RN_b (fun w' _ => ex_nilnil hB ht (q1 hst) (RV_nils (opnd_ok hL hE hG hy).1))
        | true =>
          obtain ⟨b, rfl⟩ := q3 (.inr hst)
          exact gives RN_b (fun w' _ => ex_notnil hB ht q2 (RV_nils (opnd_ok hL hE hG hy).1))
      · cases h
    · cases h
  · -- not
    split at h
    · rename_i b hx
      exact ⟨_, h, fun hG _ => gives RN_b (fun _ _ => ex_not (RN_bool (opnd_ok hL hE hG hx)))⟩
    · cases h
  · -- neg
    split at h
    · rename_i kd n hx
      exact ⟨_, h, fun hG _ => gives RN_i (fun _ _ => ex_neg (RN_int (opnd_ok hL hE hG hx)))⟩
    · cases h
  · -- pick
    rename_i s x y
    split at h
    · rename_i cb hs
      split at h
      · rename_i p q hx hy
        split at h
        · rename_i v hm
          refine ⟨v, h, fun hG _ => ?_⟩
          have e0 : a.eval (.tmp s) = .bool cb := RN_bool (look_ok hE hG hs)
          refine gives (merge_ok hm (x := a.eval x) (y := a.eval y) (fun hc => ?_) (fun hc => ?_)) (fun _ _ => ex_pick e0 rfl)
          · subst hc
            refine opnd_ok hL hE (fun g hg => (List.mem_append.1 hg).elim (hG g) (gs_ok hE (s := s) (b := true) e0 g)) hx
          · subst hc
            refine opnd_ok hL hE (fun g hg => (List.mem_append.1 hg).elim (hG g) (gs_ok hE (s := s) (b := false) e0 g)) hy
        · cases h
      · cases h
    · cases h
  · -- extract
    split at h
    · rename_i l hx
      split at h
      · rename_i s hs
        refine ⟨_, h, fun hG _ => ?_⟩
        obtain ⟨m, v, h1, h2, h3⟩ := RN_tup (opnd_ok hL hE hG hx) hs
        exact gives h3 (fun _ _ => ex_extract h1 h2)
      · cases h
    · cases h
  · -- load
    rename_i t x
    split at h
    · rename_i o off hx hk
      split at h
      · rename_i cells hc
        split at h
        · rename_i s hs
          refine ⟨_, h, fun hG _ => ?_⟩
          obtain ⟨h1, _⟩ := opnd_ok hL hE hG hx
          obtain ⟨b, hb, hv⟩ := RV_ptr h1
          obtain ⟨_, hn, b', c, t', hb', hh, ha⟩ := hI.obj o _ (findH_mem hc)
          obtain rfl := ptr_inj hb hb'
          obtain ⟨v, hv2, hr⟩ := ha.get hs
          obtain ⟨d, hd, hrow⟩ := kindOf_some hk
          refine gives ⟨hr, List.all_eq_true.1 hn s (List.mem_of_getElem? hs)⟩ (fun w' hw => ex_load_one hv hd hrow (hw.cell (.inr ⟨o, _, _, findH_mem hc, hb, rfl⟩) ?_))
          rw [cell_of_row w b off c t' (0, 0) hh]
          simpa using hv2
        · cases h
      · cases h
    · rename_i o off hx hk
      split at h
      · rename_i cells n hc hn
        split at h
        · rename_i hl
          refine ⟨_, h, fun hG _ => ?_⟩
          obtain ⟨h1, _⟩ := opnd_ok hL hE hG hx
          obtain ⟨b, hb, hv⟩ := RV_ptr h1
          obtain ⟨_, hnm, b', c, t', hb', hh, ha⟩ := hI.obj o _ (findH_mem hc)
          obtain rfl := ptr_inj hb hb'
          obtain ⟨d, hd, hrow⟩ := kindOf_some hk
          have h2 := (ha.drop off).take n
          refine gives (u := .agg ((c.toList.drop off).take n).toArray) ⟨⟨_, rfl, h2⟩, all_drop_take hnm _ _⟩ (fun w' hw => ex_load_agg hv hd hrow ?_ (fun j v hj => hw.cell (.inr ⟨o, _, _, findH_mem hc, hb, rfl⟩) ?_))
          · rw [← h2.length, hl]; exact hn
          · rw [cell_of_row w b (off + j) c t' (0, 0) hh]
            rw [List.getElem?_take] at hj
            split at hj
            · simpa using hj
            · cases hj
        · cases h
      · cases h
    · rename_i m cell off hx hk
      obtain ⟨h1, h2⟩ := chk_some h
      refine ⟨_, h1, fun hG hC => ?_⟩
      have hoff : off < m := by simpa using h2 hC
      obtain ⟨b, off0, val, hv, hF, hc, hr⟩ := RV_vp (opnd_ok hL hE hG hx).1
      obtain ⟨d, hd, hrow⟩ := kindOf_some hk
      exact gives (hr off hoff).toRN (fun w' hw => ex_load_one hv hd hrow (hw.cell (.inl hF) (hc off hoff)))
    · rename_i m cell off hx hk
      split at h
      · rename_i n hn
        obtain ⟨h1, h2⟩ := chk_some h
        refine ⟨_, h1, fun hG hC => ?_⟩
        have hoff : off + n ≤ m := by simpa using h2 hC
        obtain ⟨b, off0, val, hv, hF, hc, hr⟩ := RV_vp (opnd_ok hL hE hG hx).1
        obtain ⟨d, hd, hrow⟩ := kindOf_some hk
        have h3 : ∀ i, i < n → RN nb w F β (.one (cell (off + i))) (val (off + i)) := fun i hi => (hr (off + i) (by omega)).toRN
        refine gives (u := .agg ((List.range n).map fun j => val (off + j)).toArray) ⟨⟨_, rfl, All2.of_get (by simp) (fun i s v hs hv => ?_)⟩, ?_⟩ (fun w' hw => ex_load_agg hv hd hrow (by rw [List.length_map, List.length_range]; exact hn) (fun j v hj => hw.cell (.inl hF) ?_))
        · simp only [List.getElem?_map, Option.map_eq_some_iff] at hs hv
          obtain ⟨i1, e1, rfl⟩ := hs
          obtain ⟨i2, e2, rfl⟩ := hv
          rw [e1] at e2
          obtain rfl := Option.some.inj e2
          have hi : i1 < n := List.mem_range.1 (List.mem_of_getElem? e1)
          exact (h3 i1 hi).1
        · show List.all _ _ = true
          rw [List.all_eq_true]
          intro s hs
          obtain ⟨i, hi, rfl⟩ := List.mem_map.1 hs
          exact (h3 i (List.mem_range.1 hi)).2
        · simp only [List.getElem?_map, Option.map_eq_some_iff] at hj
          obtain ⟨i, e1, rfl⟩ := hj
          have hi : i < n := List.mem_range.1 (List.mem_of_getElem? e1)
          have hij : i = j := by
            rw [List.getElem?_range (by have := List.getElem?_eq_some_iff.1 e1; obtain ⟨q, _⟩ := this; simpa using q)] at e1
            exact (Option.some.inj e1).symm
          subst hij
          have := hc (off + i) (by omega)
          rw [Nat.add_assoc]
          exact this
      · cases h
    · rename_i o e i off hx hk
      split at h
      · rename_i t' e' n row hc
        split at h
        · rename_i he
          subst he
          obtain ⟨h1, h2⟩ := chk_some h
          refine ⟨_, h1, fun hG hC => ?_⟩
          have h3 := h2 hC
          simp only [Bool.and_eq_true, decide_eq_true_eq] at h3
          obtain ⟨b, n', c, hb, hv⟩ := RV_rp (opnd_ok hL hE hG hx).1
          obtain ⟨u, h4, h5⟩ := row_cell (hI.obj o _ (findH_mem hc)).2 hb h3.1 h3.2
          obtain ⟨d, hd, hrow⟩ := kindOf_some hk
          exact gives h5.toRN (fun w' hw => ex_load_one hv hd hrow (hw.cell (.inr ⟨o, _, _, findH_mem hc, hb, rfl⟩) h4))
        · cases h
      · rename_i t' n bn hole hc
        split at h
        · rename_i he
          subst he
          obtain ⟨h1, h2⟩ := chk_some h
          refine ⟨_, h1, fun hG hC => ?_⟩
          have h3 := h2 hC
          simp only [Bool.and_eq_true, decide_eq_true_eq] at h3
          obtain ⟨h3, rfl, h3'⟩ := h3
          obtain ⟨b, n', c, hb, hv⟩ := RV_rp (opnd_ok hL hE hG hx).1
          obtain ⟨u, h4, h5⟩ := out_cell (hI.obj o _ (findH_mem hc)).2 hb h3 h3'
          obtain ⟨d, hd, hrow⟩ := kindOf_some hk
          exact gives h5 (fun w' hw => ex_load_one hv hd hrow (hw.cell (.inr ⟨o, _, _, findH_mem hc, hb, rfl⟩) h4))
        · cases h
      · cases h
    · rename_i o e i off hx hk
      split at h
      · rename_i t' e' n row sz hc hn
        split at h
        · rename_i he
          subst he
          obtain ⟨h1, h2⟩ := chk_some h
          refine ⟨_, h1, fun hG hC => ?_⟩
          have h3 := h2 hC
          simp only [Bool.and_eq_true, decide_eq_true_eq] at h3
          obtain ⟨b, n', c, hb, hv⟩ := RV_rp (opnd_ok hL hE hG hx).1
          obtain ⟨d, hd, hrow⟩ := kindOf_some hk
          have hO := (hI.obj o _ (findH_mem hc)).2
          have h4 : ∃ val : Nat → Value, ∀ j, j < sz → w.cell? ⟨b, i * e + (off + j), none⟩ = some (val j) ∧ RF w F (row i (off + j)) (val j) := by
            refine ⟨fun j => (w.cell? ⟨b, i * e + (off + j), none⟩).getD undef, fun j hj => ?_⟩
            obtain ⟨u, h5, h6⟩ := row_cell hO hb h3.1 (show off + j < e by omega)
            show w.cell? _ = some ((w.cell? ⟨b, i * e + (off + j), none⟩).getD undef) ∧ RF w F (row i (off + j)) ((w.cell? ⟨b, i * e + (off + j), none⟩).getD undef)
            rw [h5]; exact ⟨rfl, h6⟩
          obtain ⟨val, hval⟩ := h4
          refine gives (u := .agg ((List.range sz).map fun j => val j).toArray) ⟨⟨_, rfl, All2.of_get (by simp) (fun q s v hs hv => ?_)⟩, ?_⟩ (fun w' hw => ex_load_agg hv hd hrow (by rw [List.length_map, List.length_range]; exact hn) (fun j v hj => hw.cell (.inr ⟨o, _, _, findH_mem hc, hb, rfl⟩) ?_))
          · simp only [List.getElem?_map, Option.map_eq_some_iff] at hs hv
            obtain ⟨i1, e1, rfl⟩ := hs
            obtain ⟨i2, e2, rfl⟩ := hv
            rw [e1] at e2
            obtain rfl := Option.some.inj e2
            have hi : i1 < sz := List.mem_range.1 (List.mem_of_getElem? e1)
            exact ((hval i1 hi).2.toRN (nb := nb) (β := β)).1
          · show List.all _ _ = true
            rw [List.all_eq_true]
            intro s hs
            obtain ⟨i1, hi, rfl⟩ := List.mem_map.1 hs
            exact ((hval i1 (List.mem_range.1 hi)).2.toRN (nb := nb) (β := β)).2
          · simp only [List.getElem?_map, Option.map_eq_some_iff] at hj
            obtain ⟨i1, e1, rfl⟩ := hj
            have hi : i1 < sz := List.mem_range.1 (List.mem_of_getElem? e1)
            have hij : i1 = j := by
              rw [List.getElem?_range (by have := List.getElem?_eq_some_iff.1 e1; obtain ⟨q, _⟩ := this; simpa using q)] at e1
              exact (Option.some.inj e1).symm
            subst hij
            rw [Nat.add_assoc]
            exact (hval i1 hi).1
        · cases h
      · cases h
    · rename_i o i e q off hx hk
      split at h
      · rename_i t' e' n st len row hc
        split at h
        · rename_i he
          subst he
          obtain ⟨h1, h2⟩ := chk_some h
          refine ⟨_, h1, fun hG hC => ?_⟩
          have h3 := h2 hC
          simp only [Bool.and_eq_true, decide_eq_true_eq] at h3
          obtain ⟨l, b, n', c, hb, hl, hv⟩ := RV_fp (opnd_ok hL hE hG hx).1
          obtain ⟨u, h4, h5⟩ := fam_cell (hI.obj o _ (findH_mem hc)).2 hb hl h3.1 h3.2
          obtain ⟨d, hd, hrow⟩ := kindOf_some hk
          exact gives h5.toRN (fun w' hw => ex_load_one hv hd hrow (hw.cell (.inr ⟨o, _, _, findH_mem hc, hb, Blk_tup hl rfl⟩) h4))
        · cases h
      · cases h
    · rename_i o i e q off hx hk
      split at h
      · rename_i t' e' n st len row sz hc hn
        split at h
        · rename_i he
          subst he
          obtain ⟨h1, h2⟩ := chk_some h
          refine ⟨_, h1, fun hG hC => ?_⟩
          have h3 := h2 hC
          simp only [Bool.and_eq_true, decide_eq_true_eq] at h3
          obtain ⟨l, b, n', c, hb, hl, hv⟩ := RV_fp (opnd_ok hL hE hG hx).1
          obtain ⟨d, hd, hrow⟩ := kindOf_some hk
          have hO := (hI.obj o _ (findH_mem hc)).2
          have h4 : ∃ val : Nat → Value, ∀ j, j < sz → w.cell? ⟨b, q * e + (off + j), none⟩ = some (val j) ∧ RF w F (row i q (off + j)) (val j) := by
            refine ⟨fun j => (w.cell? ⟨b, q * e + (off + j), none⟩).getD undef, fun j hj => ?_⟩
            obtain ⟨u, h5, h6⟩ := fam_cell hO hb hl h3.1 (show off + j < e by omega)
            show w.cell? _ = some ((w.cell? ⟨b, q * e + (off + j), none⟩).getD undef) ∧ RF w F (row i q (off + j)) ((w.cell? ⟨b, q * e + (off + j), none⟩).getD undef)
            rw [h5]; exact ⟨rfl, h6⟩
          obtain ⟨val, hval⟩ := h4
          refine gives (u := .agg ((List.range sz).map fun j => val j).toArray) ⟨⟨_, rfl, All2.of_get (by simp) (fun q s v hs hv => ?_)⟩, ?_⟩ (fun w' hw => ex_load_agg hv hd hrow (by rw [List.length_map, List.length_range]; exact hn) (fun j v hj => hw.cell (.inr ⟨o, _, _, findH_mem hc, hb, Blk_tup hl rfl⟩) ?_))
          · simp only [List.getElem?_map, Option.map_eq_some_iff] at hs hv
            obtain ⟨i1, e1, rfl⟩ := hs
            obtain ⟨i2, e2, rfl⟩ := hv
            rw [e1] at e2
            obtain rfl := Option.some.inj e2
            have hi : i1 < sz := List.mem_range.1 (List.mem_of_getElem? e1)
            exact ((hval i1 hi).2.toRN (nb := nb) (β := β)).1
          · show List.all _ _ = true
            rw [List.all_eq_true]
            intro s hs
            obtain ⟨i1, hi, rfl⟩ := List.mem_map.1 hs
            exact ((hval i1 (List.mem_range.1 hi)).2.toRN (nb := nb) (β := β)).2
          · simp only [List.getElem?_map, Option.map_eq_some_iff] at hj
            obtain ⟨i1, e1, rfl⟩ := hj
            have hi : i1 < sz := List.mem_range.1 (List.mem_of_getElem? e1)
            have hij : i1 = j := by
              rw [List.getElem?_range (by have := List.getElem?_eq_some_iff.1 e1; obtain ⟨q, _⟩ := this; simpa using q)] at e1
              exact (Option.some.inj e1).symm
            subst hij
            rw [Nat.add_assoc]
            exact (hval i1 hi).1
        · cases h
      · cases h
    · split at h
      · obtain ⟨h1, h2⟩ := chk_some h
        exact ⟨_, h1, fun _ hC => absurd (h2 hC) Bool.false_ne_true⟩
      · cases h
    · split at h
      · obtain ⟨h1, h2⟩ := chk_some h
        exact ⟨_, h1, fun _ hC => absurd (h2 hC) Bool.false_ne_true⟩
      · cases h
    · cases h
  · -- fieldAddr
    rename_i t x i
    split at h
    · rename_i o off fs hx ht
      split at h
      · rename_i f hf
        split at h
        · rename_i n hn
          refine ⟨_, h, fun hG _ => ?_⟩
          obtain ⟨h1, h2⟩ := opnd_ok hL hE hG hx
          obtain ⟨b, hb, hv⟩ := RV_ptr h1
          exact gives ⟨⟨b, hb, rfl⟩, h2⟩ (fun w' hw => (ex_fieldAddr hv ht hf hn (by omega)).trans (by rw [Addr.add_mid]))
        · cases h
      · cases h
    · rename_i m cell off fs hx ht
      split at h
      · rename_i f hf
        split at h
        · rename_i n hn
          refine ⟨_, h, fun hG _ => ?_⟩
          obtain ⟨b, off0, val, hv, hF, hc, hr⟩ := RV_vp (opnd_ok hL hE hG hx).1
          exact gives ((RF.vp m cell b off0 (off + f.offset) val hF hc hr).toRN) (fun w' hw => (ex_fieldAddr hv ht hf hn (by omega)).trans (by rw [Addr.add_mid, Nat.add_assoc]))
        · cases h
      · cases h
    · rename_i o e q off fs hx ht
      split at h
      · rename_i f hf
        split at h
        · rename_i n hn
          refine ⟨_, h, fun hG _ => ?_⟩
          obtain ⟨h1, h2⟩ := opnd_ok hL hE hG hx
          obtain ⟨b, n', c, hb, hv⟩ := RV_rp h1
          exact gives ⟨⟨b, n', c, hb, rfl⟩, h2⟩ (fun w' hw => (ex_fieldAddr hv ht hf hn (by omega)).trans (by rw [Addr.add_mid, Nat.add_assoc]))
        · cases h
      · cases h
    · rename_i o i1 e q off fs hx ht
      split at h
      · rename_i f hf
        split at h
        · rename_i n hn
          refine ⟨_, h, fun hG _ => ?_⟩
          obtain ⟨h1, h2⟩ := opnd_ok hL hE hG hx
          obtain ⟨l, b, n', c, hb, hl, hv⟩ := RV_fp h1
          exact gives ⟨⟨l, b, n', c, hb, hl, rfl⟩, h2⟩ (fun w' hw => (ex_fieldAddr hv ht hf hn (by omega)).trans (by rw [Addr.add_mid, Nat.add_assoc]))
        · cases h
      · cases h
    · obtain ⟨h1, h2⟩ := chk_some h
      exact ⟨_, h1, fun _ hC => absurd (h2 hC) Bool.false_ne_true⟩
    · cases h
  · -- indexAddr
    rename_i t x y
    split at h
    · rename_i o kd i te hx hy ht
      split at h
      · rename_i t' e n row hc
        split at h
        · rename_i hs
          obtain ⟨h1, h2⟩ := chk_some h
          refine ⟨_, h1, fun hG hC => ?_⟩
          have h3 := h2 hC
          simp only [Bool.and_eq_true, decide_eq_true_eq] at h3
          obtain ⟨h4, h5⟩ := opnd_ok hL hE hG hx
          obtain ⟨h6, _⟩ := RV_os h4
          obtain ⟨A, c, h7, _, h8⟩ := row_len (hI.obj o _ (findH_mem hc)).2 h6
          obtain ⟨b, rfl⟩ := h8 (by omega)
          rw [h7] at h6
          refine gives (u := .pointer (some ⟨b, i.toNat * e + 0, none⟩)) ⟨⟨b, n, c, h6, rfl⟩, h5⟩ (fun w' hw => (ex_indexAddr h7 (RN_int (opnd_ok hL hE hG hy)) ht hs h3.1 h3.2).trans (by rw [Addr.add_mid]; simp))
        · cases h
      · rename_i t' n bn hole hc
        split at h
        · rename_i hs
          obtain ⟨h1, h2⟩ := chk_some h
          refine ⟨_, h1, fun hG hC => ?_⟩
          have h3 := h2 hC
          simp only [Bool.and_eq_true, decide_eq_true_eq] at h3
          obtain ⟨h4, h5⟩ := opnd_ok hL hE hG hx
          obtain ⟨h6, _⟩ := RV_os h4
          obtain ⟨A, c, h7, _, h8⟩ := out_len (hI.obj o _ (findH_mem hc)).2 h6
          obtain ⟨b, rfl⟩ := h8 (by omega)
          rw [h7] at h6
          refine gives (u := .pointer (some ⟨b, i.toNat * 1 + 0, none⟩)) ⟨⟨b, n, c, h6, rfl⟩, h5⟩ (fun w' hw => (ex_indexAddr h7 (RN_int (opnd_ok hL hE hG hy)) ht hs h3.1 h3.2).trans (by rw [Addr.add_mid]; simp))
        · cases h
      · cases h
    · rename_i o i1 kd i te hx hy ht
      split at h
      · rename_i t' e n st len row hc
        split at h
        · rename_i hs
          obtain ⟨h1, h2⟩ := chk_some h
          refine ⟨_, h1, fun hG hC => ?_⟩
          have h3 := h2 hC
          simp only [Bool.and_eq_true, decide_eq_true_eq] at h3
          obtain ⟨h4, h5⟩ := opnd_ok hL hE hG hx
          obtain ⟨_, A, c, h7, _, h8⟩ := fam_len (hI.obj o _ (findH_mem hc)).2 h4
          obtain ⟨b, rfl⟩ := h8 (.inl (by omega))
          obtain ⟨l, hb, hl, _⟩ := RV_fi h4
          rw [h7] at hl
          refine gives (u := .pointer (some ⟨b, i.toNat * e + 0, none⟩)) ⟨⟨l, b, _, c, hb, hl, rfl⟩, h5⟩ (fun w' hw => (ex_indexAddr h7 (RN_int (opnd_ok hL hE hG hy)) ht hs h3.1 h3.2).trans (by rw [Addr.add_mid]; simp))
        · cases h
      · cases h
    · rename_i n e row kd i te hx hy ht
      split at h
      · rename_i hs
        obtain ⟨h1, h2⟩ := chk_some h
        refine ⟨_, h1, fun hG hC => ?_⟩
        have h3 := h2 hC
        simp only [Bool.and_eq_true, decide_eq_true_eq] at h3
        obtain ⟨A, c, hv, _, hm⟩ := RV_view (opnd_ok hL hE hG hx).1
        obtain ⟨b, off, val, rfl, hF, hc, hr⟩ := hm (by omega)
        have hi : i.toNat < n := by omega
        refine gives (u := .pointer (some ⟨b, off + i.toNat * e + 0, none⟩)) ((RF.vp e (row i.toNat) b (off + i.toNat * e) 0 (val i.toNat) hF (fun j hj => by rw [Nat.add_assoc]; exact hc _ j hi hj) (fun j hj => hr _ j hi hj)).toRN) (fun w' hw => (ex_indexAddr hv (RN_int (opnd_ok hL hE hG hy)) ht hs h3.1 h3.2).trans (by rw [Addr.add_mid]; rfl))
      · cases h
    · rename_i o off kd i n te hx hy ht
      split at h
      · rename_i s hs
        obtain ⟨h1, h2⟩ := chk_some h
        refine ⟨_, h1, fun hG hC => ?_⟩
        have h3 := h2 hC
        simp only [Bool.and_eq_true, decide_eq_true_eq] at h3
        obtain ⟨h4, h5⟩ := opnd_ok hL hE hG hx
        obtain ⟨b, hb, hv⟩ := RV_ptr h4
        exact gives ⟨⟨b, hb, rfl⟩, h5⟩ (fun w' hw => (ex_indexAddr_array hv (RN_int (opnd_ok hL hE hG hy)) ht hs h3.1 h3.2).trans (by rw [Addr.add_mid]))
      · cases h
    · rename_i m cell off kd i n te hx hy ht
      split at h
      · rename_i s hs
        obtain ⟨h1, h2⟩ := chk_some h
        refine ⟨_, h1, fun hG hC => ?_⟩
        have h3 := h2 hC
        simp only [Bool.and_eq_true, decide_eq_true_eq] at h3
        obtain ⟨b, off0, val, hv, hF, hc, hr⟩ := RV_vp (opnd_ok hL hE hG hx).1
        exact gives ((RF.vp m cell b off0 (off + i.toNat * s) val hF hc hr).toRN) (fun w' hw => (ex_indexAddr_array hv (RN_int (opnd_ok hL hE hG hy)) ht hs h3.1 h3.2).trans (by rw [Addr.add_mid, Nat.add_assoc]))
      · cases h
    · obtain ⟨h1, h2⟩ := chk_some h
      exact ⟨_, h1, fun _ hC => absurd (h2 hC) Bool.false_ne_true⟩
    · cases h
  · -- field
    rename_i t x i
    split at h
    · rename_i l fs hx ht
      split at h
      · rename_i f hf
        split at h
        · rename_i hk
          split at h
          · rename_i s hs
            refine ⟨_, h, fun hG _ => ?_⟩
            obtain ⟨⟨m, hm, h1⟩, h2⟩ := opnd_ok hL hE hG hx
            obtain ⟨v, h3, h4⟩ := h1.get hs
            obtain ⟨d, hd, hrow⟩ := kindOf_some hk
            exact gives ⟨h4, List.all_eq_true.1 h2 s (List.mem_of_getElem? hs)⟩ (fun w' hw => ex_field_one hm ht hf hd hrow (by simpa using h3))
          · cases h
        · rename_i n hk hn
          refine ⟨_, h, fun hG _ => ?_⟩
          obtain ⟨⟨m, hm, h1⟩, h2⟩ := opnd_ok hL hE hG hx
          obtain ⟨d, hd, hrow⟩ := kindOf_some hk
          refine gives (u := .agg (m.toArray.extract f.offset (f.offset + n))) ⟨⟨(m.toArray.extract f.offset (f.offset + n)).toList, by simp, all2_extract h1 _ _⟩, all_drop_take h2 _ _⟩ (fun w' hw => ex_field_agg hm ht hf hd hrow hn)
        · cases h
      · cases h
    · cases h
  · -- index
    rename_i t x y
    split at h
    · rename_i l kd i n te hx hy ht
      split at h
      · rename_i s hk hs
        split at h
        · rename_i p hp
          obtain ⟨h1, h2⟩ := chk_some h
          refine ⟨_, h1, fun hG hC => ?_⟩
          have h3 := h2 hC
          simp only [Bool.and_eq_true, decide_eq_true_eq] at h3
          obtain ⟨⟨m, hm, h4⟩, h5⟩ := opnd_ok hL hE hG hx
          obtain ⟨v, h6, h7⟩ := h4.get hp
          obtain ⟨d, hd, hrow⟩ := kindOf_some hk
          exact gives ⟨h7, List.all_eq_true.1 h5 p (List.mem_of_getElem? hp)⟩ (fun w' hw => ex_index_one hm (RN_int (opnd_ok hL hE hG hy)) ht hs h3.1 h3.2 hd hrow (by simpa using h6))
        · cases h
      · rename_i s hk hs
        obtain ⟨h1, h2⟩ := chk_some h
        refine ⟨_, h1, fun hG hC => ?_⟩
        have h3 := h2 hC
        simp only [Bool.and_eq_true, decide_eq_true_eq] at h3
        obtain ⟨⟨m, hm, h4⟩, h5⟩ := opnd_ok hL hE hG hx
        obtain ⟨d, hd, hrow⟩ := kindOf_some hk
        exact gives (u := .agg (m.toArray.extract (i.toNat * s) (i.toNat * s + s))) ⟨⟨(m.toArray.extract (i.toNat * s) (i.toNat * s + s)).toList, by simp, all2_extract h4 _ _⟩, all_drop_take h5 _ _⟩ (fun w' hw => ex_index_agg hm (RN_int (opnd_ok hL hE hG hy)) ht hs h3.1 h3.2 hd hrow)
      · cases h
    · rename_i s kd i hx hy ht
      obtain ⟨h1, h2⟩ := chk_some h
      refine ⟨_, h1, fun hG hC => ?_⟩
      have h3 := h2 hC
      simp only [Bool.and_eq_true, decide_eq_true_eq] at h3
      have hi : i.toNat < s.size := by omega
      have hv : s[i.toNat]? = some s[i.toNat] := by simp [hi]
      refine gives (u := .int .u8 (s[i.toNat]).toNat) ?_ (fun _ _ => ex_index_str (RV_str (opnd_ok hL hE hG hx).1) (RN_int (opnd_ok hL hE hG hy)) ht h3.1 hv)
      have e : strAt s i = (s[i.toNat]).toNat := by unfold strAt; rw [hv]; rfl
      rw [← e]
      exact RN_i
    · cases h
  · -- nilCheck
    split at h
    · rename_i o off hx
      refine ⟨_, h, fun hG _ => ?_⟩
      obtain ⟨h4, h5⟩ := opnd_ok hL hE hG hx
      obtain ⟨b, hb, hv⟩ := RV_ptr h4
      exact gives ⟨⟨b, hb, rfl⟩, h5⟩ (fun w' hw => ex_nilCheck hv)
    · rename_i m cell off hx
      refine ⟨_, h, fun hG _ => ?_⟩
      have h4 := opnd_ok hL hE hG hx
      obtain ⟨b, off0, val, hv, _⟩ := RV_vp h4.1
      exact gives (hv ▸ h4) (fun w' hw => ex_nilCheck hv)
    · rename_i o e q off hx
      refine ⟨_, h, fun hG _ => ?_⟩
      obtain ⟨h4, h5⟩ := opnd_ok hL hE hG hx
      obtain ⟨b, n', c, hb, hv⟩ := RV_rp h4
      exact gives ⟨⟨b, n', c, hb, rfl⟩, h5⟩ (fun w' hw => ex_nilCheck hv)
    · rename_i o i e q off hx
      refine ⟨_, h, fun hG _ => ?_⟩
      obtain ⟨h4, h5⟩ := opnd_ok hL hE hG hx
      obtain ⟨l, b, n', c, hb, hl, hv⟩ := RV_fp h4
      exact gives ⟨⟨l, b, n', c, hb, hl, rfl⟩, h5⟩ (fun w' hw => ex_nilCheck hv)
    · obtain ⟨h1, h2⟩ := chk_some h
      exact ⟨_, h1, fun _ hC => absurd (h2 hC) Bool.false_ne_true⟩
    · cases h
  · -- build
    rename_i t parts
    split at h
    · rename_i ps zz pl hps hz hpl
      split at h
      · rename_i l hl
        refine ⟨_, h, fun hG _ => ?_⟩
        obtain ⟨arr, h1, h2, h3⟩ := built_ok (P := P) (parts_ok hL hE hG hps) hz hpl hl
        exact gives (u := .agg arr) ⟨⟨arr.toList, by simp, h2⟩, h3⟩ (fun w' hw => ex_build (by rw [Array.toList_map]; exact h1))
      · cases h
    · cases h
  · -- makeFunc
    split at h
    · rename_i l hl
      refine ⟨_, h, fun hG _ => ?_⟩
      obtain ⟨h1, h2⟩ := caps_ok hL hE hG hl
      exact gives ⟨⟨_, rfl, h1⟩, h2⟩ (fun w' hw => (ex_makeFunc (P := P) (ρ := a.eval) (w := w')).trans (by rw [← Array.toList_map]))
    · cases h
  · -- convert
    split at h
    · rename_i kd n d k' hx hs ht
      exact ⟨_, h, fun hG _ => gives RN_i (fun _ _ => ex_convert (RN_int (opnd_ok hL hE hG hx)) hs ht)⟩
    · cases h
  · -- slice
    rename_i t x lo hi
    split at h
    · rename_i n e row te hx ht
      split at h
      · rename_i l hh hl hhi
        split at h
        · rename_i hs
          obtain ⟨h1, h2⟩ := chk_some h
          refine ⟨_, h1, fun hG hC => ?_⟩
          have h3 := h2 hC
          simp only [Bool.and_eq_true, decide_eq_true_eq] at h3
          obtain ⟨A, c, hv, hnc, hm⟩ := RV_view (opnd_ok hL hE hG hx).1
          have ii : ∀ {o : Option Operand} {z i : Int}, intOf L E G o z = some i → isInt a.eval o z i := fun {o z i} hi => by
            cases o with
            | none => exact (Option.some.inj hi).symm
            | some y =>
              unfold intOf at hi
              dsimp only at hi
              split at hi
              · rename_i k i' hy
                obtain rfl := Option.some.inj hi
                exact ⟨k, RN_int (opnd_ok hL hE hG hy)⟩
              · cases hi
          have hrun := fun w' => ex_slice (P := P) (w := w') (dst := dst) (ty := ty) (pos := pos) (after := after) (guard := guard) hv hnc (ii hl) (ii hhi) ht hs h3.1 h3.2.1 h3.2.2
          refine gives ?_ (fun w' _ => hrun w')
          have h4 : ∀ i j, subRow lo l.toNat row i j = row (l.toNat + i) j := fun i j => by
            cases lo with
            | none => have := ii hl; obtain rfl : l = 0 := this; simp [subRow]
            | some _ => rfl
          by_cases h0 : hh.toNat - l.toNat = 0
          · rw [h0]; exact (RF.view0 _ _ _ _).toRN
          · have hlt : l.toNat < n := by omega
            obtain ⟨b, off, val, rfl, hF, hc, hr⟩ := hm (by omega)
            rw [if_neg (by omega), Option.map_some, Addr.add_mid]
            refine (RF.view (hh.toNat - l.toNat) e _ b (off + l.toNat * e) (c - l.toNat) (fun i j => val (l.toNat + i) j) (by omega) (by omega) hF (fun i j hi hj => ?_) (fun i j hi hj => ?_)).toRN
            · have := hc (l.toNat + i) j (by omega) hj
              rw [Nat.add_mul] at this
              rw [← this]; congr 2; omega
            · rw [h4]; exact hr (l.toNat + i) j (by omega) hj
        · cases h
      · cases h
    · rename_i te hx ht
      split at h
      · rename_i l hh sz hl hhi hs
        obtain ⟨h1, h2⟩ := chk_some h
        refine ⟨_, h1, fun hG hC => ?_⟩
        have h3 := h2 hC
        simp only [Bool.and_eq_true, beq_iff_eq] at h3
        obtain ⟨rfl, rfl⟩ := h3
        have ii : ∀ {o : Option Operand} {z i : Int}, intOf L E G o z = some i → isInt a.eval o z i := fun {o z i} hi => by
          cases o with
          | none => exact (Option.some.inj hi).symm
          | some y =>
            unfold intOf at hi
            dsimp only at hi
            split at hi
            · rename_i k i' hy
              obtain rfl := Option.some.inj hi
              exact ⟨k, RN_int (opnd_ok hL hE hG hy)⟩
            · cases hi
        have hrun := fun w' => ex_slice (P := P) (w := w') (dst := dst) (ty := ty) (pos := pos) (after := after) (guard := guard) (RV_nils (opnd_ok hL hE hG hx).1) (Nat.le_refl 0) (ii hl) (ii hhi) ht hs (Int.le_refl 0) (Int.le_refl 0) (Int.le_refl 0)
        exact gives RF.nils.toRN (fun w' _ => hrun w')
      · cases h
    · -- of a text
      rename_i s hx ht
      split at h
      · rename_i l hh hl hhi
        obtain ⟨h, h3⟩ := chk_some h
        refine ⟨_, h, fun hG hC => ?_⟩
        have h3 := h3 hC
        simp only [Bool.and_eq_true, decide_eq_true_eq] at h3
        have ii : ∀ {o z i}, intOf L E G o z = some i → isInt a.eval o z i := fun {o z i} hi => by
          cases o with
          | none => exact (Option.some.inj hi).symm
          | some y =>
            unfold intOf at hi
            dsimp only at hi
            split at hi
            · rename_i k i' hy
              obtain rfl := Option.some.inj hi
              exact ⟨k, RN_int (opnd_ok hL hE hG hy)⟩
            · cases hi
        have hrun := fun w' => ex_slice_str (P := P) (w := w') (dst := dst) (ty := ty) (pos := pos) (after := after) (guard := guard) (RV_str (opnd_ok hL hE hG hx).1) (ii hl) (ii hhi) ht h3.1 h3.2.1 h3.2.2
        exact gives (RF.str _).toRN (fun w' _ => hrun w')
      · cases h
    · cases h
  · -- len
    rename_i x t tl
    split at h
    · rename_i n e row te hx ht
      refine ⟨_, h, fun hG _ => ?_⟩
      obtain ⟨A, c, hv, _, _⟩ := RV_view (opnd_ok hL hE hG hx).1
      exact gives RN_i (fun _ _ => ex_len hv rfl ht)
    · rename_i te hx ht
      refine ⟨_, h, fun hG _ => ?_⟩
      have hv : a.eval x = .slice none 0 0 := RV_nils (opnd_ok hL hE hG hx).1
      exact gives RN_i (fun _ _ => ex_len hv rfl ht)
    · rename_i o te hx ht
      split at h
      · rename_i t' e n row hc
        refine ⟨_, h, fun hG _ => ?_⟩
        obtain ⟨h6, _⟩ := RV_os (opnd_ok hL hE hG hx).1
        obtain ⟨A, c, h7, _⟩ := row_len (hI.obj o _ (findH_mem hc)).2 h6
        exact gives RN_i (fun _ _ => ex_len h7 rfl ht)
      · rename_i t' n bn hole hc
        refine ⟨_, h, fun hG _ => ?_⟩
        obtain ⟨h6, _⟩ := RV_os (opnd_ok hL hE hG hx).1
        obtain ⟨A, c, h7, _⟩ := out_len (hI.obj o _ (findH_mem hc)).2 h6
        exact gives RN_i (fun _ _ => ex_len h7 rfl ht)
      · cases h
    · rename_i o i te hx ht
      split at h
      · rename_i t' e n st len row hc
        refine ⟨_, h, fun hG _ => ?_⟩
        obtain ⟨_, A, c, h7, _⟩ := fam_len (hI.obj o _ (findH_mem hc)).2 (opnd_ok hL hE hG hx).1
        exact gives RN_i (fun _ _ => ex_len h7 rfl ht)
      · cases h
    · rename_i s hx ht
      exact ⟨_, h, fun hG _ => gives RN_i (fun _ _ => ex_len_str (RV_str (opnd_ok hL hE hG hx).1) rfl ht)⟩
    · cases h
  · -- min
    split at h
    · rename_i k1 p k2 q hx hy
      split at h
      · rename_i hk
        subst hk
        exact ⟨_, h, fun hG _ => gives RN_i (fun _ _ => ex_min (RN_int (opnd_ok hL hE hG hx)) (RN_int (opnd_ok hL hE hG hy)))⟩
      · cases h
    · cases h
  · -- max
    split at h
    · rename_i k1 p k2 q hx hy
      split at h
      · rename_i hk
        subst hk
        exact ⟨_, h, fun hG _ => gives RN_i (fun _ _ => ex_max (RN_int (opnd_ok hL hE hG hx)) (RN_int (opnd_ok hL hE hG hy)))⟩
      · cases h
    · cases h
  · -- max of four
    split at h
    · rename_i k1 p k2 q k3 r k4 s hx hy hz hu
      split at h
      · rename_i hk
        obtain ⟨hk1, hk2, hk3⟩ := hk
        subst hk1 hk2 hk3
        exact ⟨_, h, fun hG _ => gives RN_i (fun _ _ => ex_max4 (RN_int (opnd_ok hL hE hG hx)) (RN_int (opnd_ok hL hE hG hy)) (RN_int (opnd_ok hL hE hG hz)) (RN_int (opnd_ok hL hE hG hu)))⟩
      · cases h
    · cases h
  · -- lookup
    split at h
    · rename_i o s kt et hx hy ht
      split at h
      · rename_i ki vi val dk hf hk
        split at h
        case isFalse => cases h
        rename_i hq
        simp only [Bool.and_eq_true] at hq
        obtain ⟨q1, q2, q3⟩ := hq
        refine ⟨_, h, fun hG _ => ?_⟩
        obtain ⟨h4, _⟩ := RV_os (opnd_ok hL hE hG hx).1
        obtain ⟨r, es, c, h5, h6, h7, h8⟩ := (hI.obj o _ (findH_mem hf)).2
        rw [h5] at h4
        have h4 := (Option.some.inj h4).symm
        have hkey := keyB_ok (opnd_ok hL hE hG hy) q2
        obtain ⟨v, h9, h10⟩ := h8 s _ hkey
        refine gives h10.toRN (fun w' hw => ?_)
        have h6' : w'.heap[r]? = some (.map es c) := (hw.block r (.inr ⟨o, _, _, findH_mem hf, h5, rfl⟩)).trans h6
        exact ex_lookup h4 (run_lookM ht hk q1 h6' h7 hkey.key h9 (zeroB_ok q3))
      · cases h
    · cases h
  · cases h
end sound
end Go.Proofs.Ytobfnncpjkeloaa.Ev
