import Derived.Test.YtobfnncpjkeloaaEv6
namespace Go.Proofs.Ytobfnncpjkeloaa.Ev
open Go Go.RowKit Go.Proofs.YtobfnncpjkeloaaW.PrintLast
section sound
variable {nb base : Nat} {P : Program} {w : World} {F : Nat → Prop} {β : Blocks} {E : En} {G : List (Nat × Bool)} {L : Globs} {H : Heap} {a : Act} {α : Type} {z : α} {M : Orac} {D : FuncId → PV} {ks : List Nat}
theorem dst_ok (hI : Inv nb w F β H) {te e nw : Nat} {sv : PV} {u : Value} {o n : Nat} {row : Nat → Nat → PS} (h : dstOf H te e nw sv = some (o, n, row)) (hu : RN nb w F β sv u) :
    ∃ xs, w.ownsRow 0 te e u n xs ∧ (∀ i j, i < n → j < e → ∃ v, xs[i * e + j]? = some v ∧ RF w F (row i j) v) ∧ (blk u = none ∨ ∃ l, (o, l) ∈ H ∧ β o = some u) := by
  unfold dstOf at h
  split at h
  · cases h
    obtain rfl := RV_nils hu.1
    exact ⟨[], ⟨by simp, .inl ⟨rfl, rfl⟩⟩, fun i j hi => by omega, .inl rfl⟩
  · rename_i o'
    split at h
    · rename_i te' e' n' row' hf
      split at h
      · rename_i he
        obtain ⟨rfl, rfl⟩ := he
        cases h
        obtain ⟨h1, _⟩ := RV_os hu.1
        obtain ⟨_, v, xs, h2, h3, h4⟩ := hI.obj o _ (findH_mem hf)
        rw [h1] at h2
        obtain rfl := Option.some.inj h2
        exact ⟨xs, h3, h4, .inr ⟨_, findH_mem hf, h1⟩⟩
      · cases h
    · cases h
  · cases h
theorem src_ok (hI : Inv nb w F β H) {e : Nat} {xv : PV} {u : Value} {m : Nat} {new : Nat → Nat → PS} (he : 0 < e) (h : srcOf H e xv = some (m, new)) (hu : RN nb w F β xv u) (hm : 0 < m) :
    ∃ (ad : Addr) (c : Nat) (news : List Value), u = .slice (some ad) m c ∧ news.length = m * e ∧ (∀ (j : Nat) (v : Value), news[j]? = some v → w.cell? (ad.add j) = some v) ∧ (∀ i j, i < m → j < e → ∃ v, news[i * e + j]? = some v ∧ RF w F (new i j) v) ∧ ∀ v ∈ news, v.oneCell' = true := by
  have one : ∀ {news : List Value}, news.length = m * e → (∀ i j, i < m → j < e → ∃ v, news[i * e + j]? = some v ∧ RF w F (new i j) v) → ∀ v ∈ news, v.oneCell' = true := fun {news} hl hc v hv => by
    obtain ⟨q, hq, rfl⟩ := List.getElem_of_mem hv
    have h1 : q / e < m := by rw [Nat.div_lt_iff_lt_mul he]; omega
    obtain ⟨v', h2, h3⟩ := hc (q / e) (q % e) h1 (Nat.mod_lt _ he)
    rw [Nat.mul_comm, Nat.div_add_mod, List.getElem?_eq_getElem hq] at h2
    obtain rfl := Option.some.inj h2
    exact h3.one
  unfold srcOf at h
  split at h
  · cases h; omega
  · rename_i m' e' new'
    split at h
    · rename_i hee
      subst hee
      cases h
      obtain ⟨A, c, rfl, _, h1⟩ := RV_view hu.1
      obtain ⟨b, off, val, rfl, hF, h2, h3⟩ := h1 hm
      have hc : ∀ i j, i < m → j < e' → ∃ v, ((List.range (m * e')).map fun q => val (q / e') (q % e'))[i * e' + j]? = some v ∧ RF w F (new i j) v := fun i j hi hj => by
        refine ⟨val i j, ?_, h3 i j hi hj⟩
        rw [List.getElem?_map, List.getElem?_range (row_lt hi hj)]
        have e1 : (i * e' + j) / e' = i := by rw [Nat.mul_comm, Nat.mul_add_div he, Nat.div_eq_of_lt hj]; rfl
        have e2 : (i * e' + j) % e' = j := by rw [Nat.mul_comm, Nat.mul_add_mod, Nat.mod_eq_of_lt hj]
        simp [e1, e2]
      refine ⟨_, c, (List.range (m * e')).map fun q => val (q / e') (q % e'), rfl, by simp, fun j v hj => ?_, hc, one (by simp) hc⟩
      rw [List.getElem?_map, Option.map_eq_some_iff] at hj
      obtain ⟨q, hq, rfl⟩ := hj
      obtain ⟨hq1, hq2⟩ := List.getElem?_eq_some_iff.1 hq
      simp at hq1 hq2
      subst hq2
      have h1 : j / e' < m := by rw [Nat.div_lt_iff_lt_mul he]; omega
      have := h2 (j / e') (j % e') h1 (Nat.mod_lt _ he)
      rw [Nat.mul_comm, Nat.div_add_mod] at this
      rw [Addr.add_mid]
      exact this
    · cases h
  · rename_i o
    split at h
    · rename_i te e' m' new' hf
      split at h
      · rename_i hee
        subst hee
        cases h
        obtain ⟨h1, _⟩ := RV_os hu.1
        have hO := (hI.obj o _ (findH_mem hf)).2
        obtain ⟨v, xs, h2, h3, h4⟩ := hO
        rw [h1] at h2
        obtain rfl := Option.some.inj h2
        rcases h3.2 with ⟨_, h5⟩ | ⟨g, cap, cur, rfl, _, hh, _, _, _, htk⟩
        · omega
        · refine ⟨_, cap, xs, rfl, h3.1, fun j v hj => ?_, h4, one h3.1 h4⟩
          rw [Addr.add_mid, Nat.zero_add, cell_of_row w g j cur te (0, 0) hh]
          rw [← htk, List.getElem?_take] at hj
          split at hj
          · simpa using hj
          · cases hj
      · cases h
    · cases h
  · rename_i b i
    split at h
    · rename_i te e' n st len row hf
      split at h
      · rename_i hee
        subst hee
        cases h
        obtain ⟨l, h1, h2, _⟩ := RV_fi hu.1
        obtain ⟨l', h5, _, h6, _⟩ := inn_of (hI.obj b _ (findH_mem hf)).2
        obtain rfl := tup_inj h1 h5
        obtain ⟨_, _, xs, h3, h4⟩ := h6 i _ h2
        rcases h3.2 with ⟨_, h5⟩ | ⟨g, cap, cur, rfl, _, hh, _, _, _, htk⟩
        · omega
        · refine ⟨_, cap, xs, rfl, h3.1, fun j v hj => ?_, h4, one h3.1 h4⟩
          rw [Addr.add_mid, Nat.zero_add, cell_of_row w g j cur te (0, 0) hh]
          rw [← htk, List.getElem?_take] at hj
          split at hj
          · simpa using hj
          · cases hj
      · cases h
    · cases h
  · cases h
theorem ex_append {dst : Option Tmp} {s x : Operand} {t : TypeId} {ty : TypeId} {pos : String} {after : Array Edge} {guard : Option (Nat × Bool)} {v : Value} {w' : World} (h : (Builtin.append_ #[t, t] ty #[a.eval s, a.eval x]).run P w = .ok v w') :
    (execOp a.eval ⟨dst, .call ⟨.builtin .append, #[s, x], #[t, t]⟩, ty, pos, after, guard⟩).run P w = .ok (.value v) w' := by
  simp [execOp, resolve, invoke, builtin, h]
theorem src_none (hI : Inv nb w F β H) {e : Nat} {xv : PV} {u : Value} {new : Nat → Nat → PS} (h : srcOf H e xv = some (0, new)) (hu : RN nb w F β xv u) : ∃ A c, u = .slice A 0 c := by
  unfold srcOf at h
  split at h
  · exact ⟨none, 0, RV_nils hu.1⟩
  · split at h
    · cases h
      obtain ⟨A, c, h1, _⟩ := RV_view hu.1
      exact ⟨A, c, h1⟩
    · cases h
  · split at h
    · rename_i te e' m' new' hf
      split at h
      · cases h
        obtain ⟨h1, _⟩ := RV_os hu.1
        obtain ⟨A, c, h2, _⟩ := row_len (hI.obj _ _ (findH_mem hf)).2 h1
        exact ⟨A, c, h2⟩
      · cases h
    · cases h
  · split at h
    · rename_i te e' n st len row hf
      split at h
      · have e0 := (Prod.mk.inj (Option.some.inj h)).1
        obtain ⟨_, A, c, h2, _⟩ := fam_len (hI.obj _ _ (findH_mem hf)).2 hu.1
        exact ⟨A, c, by rw [h2, e0]⟩
      · cases h
    · cases h
  · cases h
theorem run_append_none {t ty te : TypeId} {i : TypeInfo} {A : Option Addr} {c n e : Nat} {v : Value} {xs : List Value} (ht : P.underlying t = some (.slice te)) (hi : P.info? te = some i) (hown : w.ownsRow 0 te e v n xs) : (Builtin.append_ #[t, t] ty #[v, .slice A 0 c]).run P w = .ok v w := by
  have hf : (Builtin.firstCells i.size 0 (.slice A 0 c)).run P w = .ok #[] w := by
    cases A with
    | none => rfl
    | some a => simp [Builtin.firstCells, loadCells, loadCellsFrom]
  rcases hown.2 with ⟨rfl, rfl⟩ | ⟨g, cap, cur, rfl, _, _, hcap, _⟩
  · simp [Builtin.append_, run_underlying ht, sizeOf, typeInfo, hi, Builtin.lenOf, hf]
  · simp [Builtin.append_, run_underlying ht, sizeOf, typeInfo, hi, Builtin.lenOf, hf, hcap, storeCells]
theorem app1_ok (hL : okG w F L) (hI : Inv nb w F β H) (hE : okE nb w F β a.tmps E) {C : Bool} {o : Oper} {d : Tmp} (hd : o.dst = some d) {s x : Operand} {t te : TypeId} (hop : o.op = .call ⟨.builtin .append, #[s, x], #[t, t]⟩) (ht : P.underlying t = some (.slice te)) {sv xv : PV} (hs : opnd L E G s = some sv) (hx : opnd L E G x = some xv) {k : PV → Heap → List Nat → Option α} (h : app1 P ks nb base C H d te sv xv k = some z) :
    ∃ v H' kl, k v H' kl = some z ∧ (∀ x ∈ kl, lowK base ks x = false) ∧ (H' = H ∨ C = true) ∧ (holdsG a.tmps G → C = true → Does P nb w F β H a o (okOf kl) v H') := by
  unfold app1 at h
  split at h
  · rename_i e by_ zl he hby hz
    split at h
    · rename_i ob n row m new hdst hsrc
      split at h
      case isFalse => cases h
      rename_i hq
      rw [Bool.and_eq_true, decide_eq_true_eq, Bool.not_eq_true'] at hq
      obtain ⟨⟨h1, h2, h4⟩, h3⟩ := hq
      split at h
      · rename_i hC
        split at h
        case isFalse => cases h
        rename_i hr
        simp only [Bool.and_eq_true, decide_eq_true_eq] at hr
        obtain ⟨h6, h7⟩ := hr
        refine ⟨_, _, _, h, fun x hx => by rw [List.mem_singleton.1 hx]; exact h3, .inr hC, fun hG _ => ?_⟩
        obtain ⟨xs, h8, h9, h10⟩ := dst_ok hI hdst (opnd_ok hL hE hG hs)
        rcases Nat.eq_zero_or_pos m with hm0 | h5
        · subst hm0
          obtain ⟨A, c, hux⟩ := src_none hI hsrc (opnd_ok hL hE hG hx)
          obtain ⟨i, zv, h16, h17, h18, _⟩ := zero_ok (nb := nb) (w := w) (F := F) (β := β) hz
          obtain ⟨h25', h26'⟩ := app_ok (m := 0) (news := []) (new := new) hI h4 h8 h9 h10 (by rw [List.append_nil]; exact h8) (fun i j hi => by omega) ⟨rfl, rfl, rfl, Nat.le_refl _, fun _ _ _ => rfl⟩ (.inl rfl)
          have h25 := h25'.less (fun _ => ordH_sub (H := H))
          have h26 := h26'.less (fun _ => ordH_sub (H := H))
          obtain ⟨dst, op, ty, pos, after, guard⟩ := o
          simp only at hop
          subst hop
          intro Kc Q hk
          refine wp_value (v := a.eval s) (ex_append (by rw [hux]; exact run_append_none ht h16 h8)) (hk w F _ (a.eval s) (fun _ => ⟨⟨by rw [putB_same], ?_⟩, by simpa [okV, okS] using h4⟩) h25 (one_run h26) (fun h => nomatch h))
          rcases h8.2 with ⟨h, _⟩ | ⟨g, cap, cur, h, _⟩ <;> rw [h] <;> rfl
        obtain ⟨ad, c, news, h11, h12, h13, h14, h15⟩ := src_ok hI h2 hsrc (opnd_ok hL hE hG hx) h5
        obtain ⟨i, zv, h16, h17, h18, _⟩ := zero_ok (nb := nb) (w := w) (F := F) (β := β) hz
        have hie : i.size = e := by
          obtain ⟨i', h19, h20⟩ := Option.map_eq_some_iff.1 he
          rw [h16] at h19; obtain rfl := Option.some.inj h19; exact h20
        have hib : i.bytes = by_ := by
          obtain ⟨i', h19, h20⟩ := Option.map_eq_some_iff.1 hby
          rw [h16] at h19; obtain rfl := Option.some.inj h19; exact h20
        have hzs : zv.cells.size = e := by have := h18.length; simp at this; omega
        obtain ⟨dst, op, ty, pos, after, guard⟩ := o
        simp only at hop
        subst hop
        obtain ⟨v', w', h21, h22, h23, _, h24⟩ := run_append_own_at (P := P) w 0 t ty te i zv e by_ ht h16 h17 hie hib hzs h2 (a.eval s) n xs h8 ad m c news h12 h13 h15 h6 h7 (Nat.zero_le _)
        obtain ⟨h25', h26'⟩ := app_ok hI h4 h8 h9 h10 h22 h14 h23 h24
        have h25 := h25'.less (fun _ => ordH_sub (H := H))
        have h26 := h26'.less (fun _ => ordH_sub (H := H))
        intro Kc Q hk
        refine wp_value (v := v') (ex_append (by rw [h11]; exact h21)) (hk w' F _ v' (fun _ => ⟨?_, by simpa [okV, okS] using h4⟩) h25 (one_run h26) (fun h => nomatch h))
        obtain ⟨A, c', h27⟩ : ∃ A c', v' = .slice A (n + m) c' := by
          rcases h22.2 with ⟨_, h⟩ | ⟨g, cap, cur, h, _⟩
          · omega
          · exact ⟨_, _, h⟩
        exact ⟨by rw [putB_same], by rw [h27]; rfl⟩
      · rename_i hC
        exact ⟨_, H, _, h, fun x hx => by rw [List.mem_singleton.1 hx]; exact h3, .inl rfl, fun _ hC' => absurd hC' hC⟩
    · cases h
  · cases h
/-! rows of own rows -/
theorem ok3 {l : List Nat} {H0 : Heap} {w' : World} {F' : Nat → Prop} {β' : Blocks} {H' : Heap} (h : Run (fun z => !l.contains z) w F β H0 w' F' β' H') : Run (okOf l) w F β H0 w' F' β' H' := h
theorem litF1_ok (hL : okG w F L) (hI : Inv nb w F β H) (hE : okE nb w F β a.tmps E) {C : Bool} {o : Oper} {d : Tmp} {t te : TypeId} {len : Nat} {parts : Array (Nat × Operand)} (hop : o.op = .buildSlice t len parts) (ht : P.underlying t = some (.slice te)) {k : PV → Heap → List Nat → Option α} (h : litF1 P L ks nb base E G C H d te len parts.toList k = some z) :
    ∃ v H' kl, k v H' kl = some z ∧ (∀ x ∈ kl, lowK base ks x = false) ∧ (H' = H ∨ C = true) ∧ (holdsG a.tmps G → C = true → Does P nb w F β H a o (okOf kl) v H') := by
  unfold litF1 at h
  split at h
  case h_2 => cases h
  rename_i x hparts
  split at h
  case h_2 => cases h
  rename_i r z0 hx hsz hz
  split at h
  case h_2 => cases h
  rename_i te2 e2 n2 row2 hr
  split at h
  case isFalse => cases h
  rename_i hc
  simp only [Bool.and_eq_true, decide_eq_true_eq, Bool.not_eq_true'] at hc
  obtain ⟨⟨h1, h2, h3, h4, h5, h6⟩, h7⟩ := hc
  have hkl : ∀ y ∈ [base + d, bnOf nb d, r], lowK base ks y = false := fun y hy => by
    simp only [List.mem_cons, List.not_mem_nil, or_false] at hy
    rcases hy with rfl | rfl | rfl
    · exact low_base _ (List.mem_singleton.2 rfl)
    · simp only [lowK, Bool.and_eq_false_iff, decide_eq_false_iff_not]; exact .inl (by omega)
    · exact h7
  split at h
  · rename_i hC
    split at h
    case isFalse => cases h
    rename_i h0
    refine ⟨_, _, _, h, hkl, .inr hC, fun hG _ => ?_⟩
    obtain ⟨hu, hh⟩ := RV_os (opnd_ok hL hE hG hx).1
    obtain ⟨β', b1, b2', b3'⟩ := litF_ok (te := te) hI h1 h2 h4 h5 h6 (findH_mem hr) hu (by simpa using h0)
    have b2 := b2'.less (fun _ => ordH_sub (H := H))
    have b3 := b3'.less (fun _ => ordH_sub (H := H))
    intro Kc Q hk
    refine wp_value (v := .slice (some ⟨w.heap.size, 0, none⟩) 1 1) ?_ (hk _ F _ _ (fun _ => ⟨⟨b1, rfl⟩, by simpa [okV, okS] using h1⟩) b2 (ok3 b3) (fun _ => push_cls _ _))
    obtain ⟨dst, op, ty, pos, after, guard⟩ := o
    simp only at hop
    subst hop
    obtain ⟨i, hi, hi1⟩ := Option.map_eq_some_iff.1 hsz
    have hcells : (a.eval x).cells = #[a.eval x] := RS_notagg (w := w) (F := F) (β := β) (s := .os r) ⟨hu, hh⟩
    obtain ⟨i', zv, g1, g2, g3, g4⟩ := zero_ok (nb := nb) (w := w) (F := F) (β := β) hz
    have hi0 : i' = i := by rw [hi] at g1; exact (Option.some.inj g1).symm
    subst hi0
    have hp := zero_pad (len := 1) (e := 1) g3 g4 rfl (by decide)
    obtain ⟨arr, g5, g6, _⟩ := fill_ok (nb := nb) (w := w) (F := F) (β := β) (pl := fun i => some (i * 1, 1)) (pl' := fun i => some (i * 1, 1)) (fun _ => rfl) (ps := [(0, [.os r])]) (vs := [(0, a.eval x)]) (.cons ⟨rfl, by rw [hcells]; exact .cons ⟨hu, hh⟩ .nil, by simpa [okS] using (hI.obj r _ (findH_mem hr)).1⟩ .nil) hp.1 hp.2 (l := [.os r]) rfl
    have harr : arr = #[a.eval x] := by
      obtain ⟨l⟩ := arr
      cases g6 with
      | cons q1 q2 =>
        cases q2
        have := q1.1
        rw [hu] at this
        rw [← Option.some.inj this]
    subst harr
    obtain ⟨pl⟩ := parts
    simp only at hparts
    subst hparts
    unfold execOp
    simp only [Instr.buildSlice, Sem.run_bind, run_underlying ht, sizeOf, typeInfo, Sem.run_pure, Result.andThen_ok, zeroValue]
    simp_all [Sem.run, newRow, newObj, program]
  · rename_i hC
    exact ⟨_, H, _, h, hkl, .inl rfl, fun _ hC' => absurd hC' hC⟩
theorem mkF1_ok (hL : okG w F L) (hI : Inv nb w F β H) (hE : okE nb w F β a.tmps E) {C : Bool} {o : Oper} {d : Tmp} (hd : o.dst = some d) {x y : Operand} {t te : TypeId} (hop : o.op = .makeSlice t x y) (ht : P.underlying t = some (.slice te)) {k1 k2 : IntKind} {n n2 : Int} (hx : opnd L E G x = some (.one (.int k1 n))) (hy : opnd L E G y = some (.one (.int k2 n2))) {k : PV → Heap → List Nat → Option α} (h : make1 P nb base C H d te (sameOp x y) n n2 (mkF1 P nb base C H d te k) = some z) :
    ∃ v H' kl, k v H' kl = some z ∧ (∀ x ∈ kl, lowK base ks x = false) ∧ (H' = H ∨ C = true) ∧ (holdsG a.tmps G → C = true → Does P nb w F β H a o (okOf kl) v H') := by
  obtain ⟨v, H1, kl, h1, h2, h3, h4, h5⟩ := make_ok (ks := ks) hL hI hE hd hop ht hx hy h
  unfold mkF1 at h1
  split at h1
  · rename_i hC
    obtain ⟨rfl, rfl, zl, m, hz, hH⟩ := h4 hC
    split at h1
    case h_2 => cases h1
    rename_i t' n' row te2 e2 hz' hf hte
    split at h1
    case isFalse => cases h1
    rename_i hc
    simp only [decide_eq_true_eq] at hc
    obtain ⟨c1, c2, c3⟩ := hc
    rw [hz] at hz'
    obtain rfl := Option.some.inj hz'
    have hrow : ∀ i, row i 0 = .nils := by
      unfold newH at hH
      split at hH
      case isFalse => cases hH
      obtain rfl := Option.some.inj hH
      simp only [findH, List.find?, beq_self_eq_true, Option.map_some, Option.some.injEq, OB.rows.injEq] at hf
      obtain ⟨_, _, _, rfl⟩ := hf
      intro i; rfl
    refine ⟨_, _, _, h1, fun q hq => ?_, .inr hC, fun hG _ => ?_⟩
    · rcases List.mem_cons.1 hq with rfl | hq
      · simp only [lowK, Bool.and_eq_false_iff, decide_eq_false_iff_not]; exact .inl (by omega)
      · exact h2 q hq
    · intro Kc Q hk
      refine h5 hG hC Kc Q (fun w' F' β' u q1 q2 q3 q4 => ?_)
      obtain ⟨β2, p1, p2', p3'⟩ := mkF_ok (te := te2) (e := e2) q2 (findH_mem hf) c1 c3 hrow
      have p2 := p2'.less (fun _ => ordH_sub (H := H))
      have p3 := p3'.less (fun _ => ordH_sub (H := H))
      refine hk w' F' β2 u (fun hd' => ?_) p2 ((q3.weaken (fun z hz => ?_)).trans (p3.weaken (fun z hz => ?_))) q4
      · obtain ⟨⟨r1, r2⟩, r3⟩ := q1 hd'
        exact ⟨⟨p1.trans r1, r2⟩, r3⟩
      · simp only [okOf, List.contains_cons, Bool.not_or, Bool.and_eq_true] at hz ⊢
        exact hz.2
      · simp only [okOf, List.contains_cons, Bool.not_or, Bool.and_eq_true] at hz ⊢
        exact ⟨hz.1, rfl⟩
  · rename_i hC
    split at h1
    case isFalse => cases h1
    rename_i hc
    refine ⟨_, H1, _, h1, fun q hq => ?_, h3, fun _ hC' => absurd hC' hC⟩
    rcases List.mem_cons.1 hq with rfl | hq
    · simp only [lowK, Bool.and_eq_false_iff, decide_eq_false_iff_not]; exact .inl (by simpa using hc)
    · exact h2 q hq
theorem dstF_ok (hI : Inv nb w F β H) {t te e nw nbw : Nat} {sv : PV} {u : Value} {o b n : Nat} {st : Nat → Bool} {len : Nat → Nat} {row : Nat → Nat → Nat → PS} (h : dstF H t te e nw nbw sv = some (o, b, n, st, len, row)) (hu : RN nb w F β sv u) :
    ∃ l, w.ownsRow 0 t 1 u n l ∧ ((u = .slice none 0 0 ∧ l = []) ∨ ∃ n', (o, .out t n b none) ∈ H ∧ (b, .inn te e n' st len row) ∈ H ∧ β o = some u ∧ β b = some (.tuple l.toArray)) := by
  unfold dstF at h
  split at h
  · cases h
    obtain rfl := RV_nils hu.1
    exact ⟨[], ⟨by simp, .inl ⟨rfl, rfl⟩⟩, .inl ⟨rfl, rfl⟩⟩
  · split at h
    case h_2 => cases h
    rename_i t' n' b' hf
    split at h
    case h_2 => cases h
    rename_i te' e' n'' st' len' row' hf2
    split at h
    case isFalse => cases h
    rename_i he
    obtain ⟨rfl, rfl, rfl⟩ := he
    cases h
    obtain ⟨h1, _⟩ := RV_os hu.1
    obtain ⟨_, v, xs, l, q1, q2, q3, q4, _, q6⟩ := (hI.obj o _ (findH_mem hf)).2
    rw [h1] at q1
    obtain rfl := Option.some.inj q1
    have : xs = l := by
      have e1 := q2.1
      apply List.ext_getElem?
      intro j
      by_cases hj : j < n
      · exact q6 j hj (by simp)
      · rw [List.getElem?_eq_none (by omega), List.getElem?_eq_none (by omega)]
    subst this
    exact ⟨xs, q2, .inr ⟨_, findH_mem hf, findH_mem hf2, h1, q3⟩⟩
  · cases h
theorem appF1_ok (hL : okG w F L) (hI : Inv nb w F β H) (hE : okE nb w F β a.tmps E) {C : Bool} {o : Oper} {d : Tmp} {s x : Operand} {t te : TypeId} (hop : o.op = .call ⟨.builtin .append, #[s, x], #[t, t]⟩) (ht : P.underlying t = some (.slice te)) {sv xv : PV} (hs : opnd L E G s = some sv) (hx : opnd L E G x = some xv) {k : PV → Heap → List Nat → Option α} (h : appF1 P ks nb base C H d te sv xv k = some z) :
    ∃ v H' kl, k v H' kl = some z ∧ (∀ x ∈ kl, lowK base ks x = false) ∧ (H' = H ∨ C = true) ∧ (holdsG a.tmps G → C = true → Does P nb w F β H a o (okOf kl) v H') := by
  unfold appF1 at h
  split at h
  case h_2 => cases h
  rename_i by_ z0 o2 he hby hz
  split at h
  case h_2 => cases h
  rename_i t2 n2 b2 hf2
  split at h
  case h_2 => cases h
  rename_i te' e' n2' st2 len2 row2 hfb2
  split at h
  case h_2 => cases h
  rename_i ob b n1 st1 len1 row1 hdst
  split at h
  case isFalse => cases h
  rename_i hc
  simp only [Bool.and_eq_true, decide_eq_true_eq, Bool.not_eq_true'] at hc
  obtain ⟨⟨rfl, c1, c2, d1, d2, d3, d4, d5⟩, k1, k2, k3, k4⟩ := hc
  have hkl : ∀ y ∈ [ob, b, o2, b2], lowK base ks y = false := fun y hy => by
    simp only [List.mem_cons, List.not_mem_nil, or_false] at hy
    rcases hy with rfl | rfl | rfl | rfl <;> assumption
  split at h
  · rename_i hC
    split at h
    case isFalse => cases h
    rename_i hr
    simp only [Bool.and_eq_true, decide_eq_true_eq] at hr
    obtain ⟨h5, h6, h7⟩ := hr
    refine ⟨_, _, _, h, hkl, .inr hC, fun hG _ => ?_⟩
    obtain ⟨l1, g1, g2⟩ := dstF_ok hI hdst (opnd_ok hL hE hG hs)
    obtain ⟨hu2, _⟩ := RV_os (opnd_ok hL hE hG hx).1
    obtain ⟨_, v2, xs2, l2, q1, q2, q3, q4, q5, q6⟩ := (hI.obj o2 _ (findH_mem hf2)).2
    rw [hu2] at q1
    obtain rfl := (Option.some.inj q1).symm
    have hxl : xs2 = l2 := by
      have e1 := q2.1
      apply List.ext_getElem?
      intro j
      by_cases hj : j < n2
      · exact q6 j hj (by simp)
      · rw [List.getElem?_eq_none (by omega), List.getElem?_eq_none (by omega)]
    subst hxl
    obtain ⟨i, zv, h16, h17, h18, _⟩ := zero_ok (nb := nb) (w := w) (F := F) (β := β) hz
    have hie : i.size = 1 := by
      obtain ⟨i', h19, h20⟩ := Option.map_eq_some_iff.1 he
      rw [h16] at h19; obtain rfl := Option.some.inj h19; exact h20
    have hib : i.bytes = by_ := by
      obtain ⟨i', h19, h20⟩ := Option.map_eq_some_iff.1 hby
      rw [h16] at h19; obtain rfl := Option.some.inj h19; exact h20
    have hzs : zv.cells.size = 1 := by have := h18.length; simp at this; omega
    obtain ⟨dst, op, ty, pos, after, guard⟩ := o
    simp only at hop
    subst hop
    rcases q2.2 with ⟨_, h0⟩ | ⟨g, cap, cur, hv2, _, hh, _, _, _, htk⟩
    · omega
    have hone : ∀ u ∈ xs2, u.oneCell' = true := fun u hu => hdr_one (q5 u hu)
    obtain ⟨v', w', h21, h22, h23, _, h24⟩ := run_append_own_at (P := P) w 0 t ty t2 i zv 1 by_ ht h16 h17 hie hib hzs (by decide) (a.eval s) n1 l1 g1 ⟨g, 0, none⟩ n2 cap xs2 q2.1 (fun j v hj => by
      rw [Addr.add_mid, Nat.zero_add, cell_of_row w g j cur t2 (0, 0) hh]
      rw [← htk, List.getElem?_take] at hj
      split at hj
      · simpa using hj
      · cases hj) hone h6 h7 (Nat.zero_le _)
    obtain ⟨β', b1, b2', b3'⟩ := appF_ok hI c1 c2 d1 d2 d3 d4 d5 (findH_mem hf2) (findH_mem hfb2) q3 g1 g2 h22 h23 h24
    have b2 := b2'.less (fun _ => ordH_sub (H := H))
    have b3 := b3'.less (fun _ => ordH_sub (H := H))
    intro Kc Q hk
    refine wp_value (v := v') (ex_append (by rw [hv2]; exact h21)) (hk w' F _ v' (fun _ => ⟨⟨b1, ?_⟩, by simpa [okV, okS] using c1⟩) b2 (ok3 b3) (fun h => nomatch h))
    rcases h22.2 with ⟨rfl, _⟩ | ⟨g, cap, cur, rfl, _⟩ <;> rfl
  · rename_i hC
    exact ⟨_, H, _, h, hkl, .inl rfl, fun _ hC' => absurd hC' hC⟩
theorem owner_mem {b o t n : Nat} : ∀ {H : Heap}, ownerH H b = some (o, t, n) → (o, OB.out t n b none) ∈ H
  | [], h => nomatch h
  | (o', ob) :: r, h => by
    unfold ownerH at h
    split at h
    · cases h
    · rename_i heq
      split at h
      · rename_i e
        subst e
        cases h
        cases heq
        exact List.mem_cons_self ..
      · cases heq
        exact List.mem_cons_of_mem _ (owner_mem h)
    · rename_i heq
      cases heq
      exact List.mem_cons_of_mem _ (owner_mem h)
theorem takF1_ok (hL : okG w F L) (hI : Inv nb w F β H) (hE : okE nb w F β a.tmps E) {C : Bool} {o : Oper} {d : Tmp} {s x : Operand} {t te : TypeId} (hop : o.op = .call ⟨.builtin .append, #[s, x], #[t, t]⟩) (ht : P.underlying t = some (.slice te)) {b i : Nat} {xv : PV} (hs : opnd L E G s = some (.one (.fi b i))) (hx : opnd L E G x = some xv) {k : PV → Heap → List Nat → Option α} (h : takF1 P ks nb base C H d te b i xv k = some z) :
    ∃ v H' kl, k v H' kl = some z ∧ (∀ x ∈ kl, lowK base ks x = false) ∧ (H' = H ∨ C = true) ∧ (holdsG a.tmps G → C = true → Does P nb w F β H a o (okOf kl) v H') := by
  unfold takF1 at h
  split at h
  case h_2 => cases h
  rename_i e by_ zl ob t0 n te' e' n' st len row he hby hz hown hfb
  split at h
  case h_2 => cases h
  rename_i m new hsrc
  split at h
  case isFalse => cases h
  rename_i hc
  simp only [Bool.and_eq_true, decide_eq_true_eq, Bool.not_eq_true'] at hc
  obtain ⟨⟨h4, h2, rfl, rfl, c1, c2, c3⟩, k1⟩ := hc
  have hkl : ∀ y ∈ [b, base + d], lowK base ks y = false := fun y hy => by
    simp only [List.mem_cons, List.not_mem_nil, or_false] at hy
    rcases hy with rfl | rfl
    · exact k1
    · exact low_base _ (List.mem_singleton.2 rfl)
  split at h
  · rename_i hC
    split at h
    case isFalse => cases h
    rename_i hr
    simp only [Bool.and_eq_true, decide_eq_true_eq] at hr
    obtain ⟨h5, h6, h7⟩ := hr
    refine ⟨_, _, _, h, hkl, .inr hC, fun hG _ => ?_⟩
    obtain ⟨l, hb, hl, _⟩ := RV_fi (opnd_ok hL hE hG hs).1
    obtain ⟨l', p1, _, p3, _⟩ := inn_of (hI.obj b _ (findH_mem hfb)).2
    obtain rfl := tup_inj hb p1
    obtain ⟨_, _, xs, h8, h9⟩ := p3 i _ hl
    obtain ⟨ad, c, news, h11, h12, h13, h14, h15⟩ := src_ok hI h2 hsrc (opnd_ok hL hE hG hx) h5
    obtain ⟨ti, zv, h16, h17, h18, _⟩ := zero_ok (nb := nb) (w := w) (F := F) (β := β) hz
    have hie : ti.size = e' := by
      obtain ⟨i', h19, h20⟩ := Option.map_eq_some_iff.1 he
      rw [h16] at h19; obtain rfl := Option.some.inj h19; exact h20
    have hib : ti.bytes = by_ := by
      obtain ⟨i', h19, h20⟩ := Option.map_eq_some_iff.1 hby
      rw [h16] at h19; obtain rfl := Option.some.inj h19; exact h20
    have hzs : zv.cells.size = e' := by have := h18.length; simp at this; omega
    obtain ⟨dst, op, ty, pos, after, guard⟩ := o
    simp only at hop
    subst hop
    obtain ⟨v', w', h21, h22, h23, _, h24⟩ := run_append_own_at (P := P) w 0 t ty te' ti zv e' by_ ht h16 h17 hie hib hzs h2 (a.eval s) (len i) xs h8 ad m c news h12 h13 h15 h6 h7 (Nat.zero_le _)
    obtain ⟨β', b1, b2', b3'⟩ := takF_ok hI (owner_mem hown) (findH_mem hfb) c1 c2 c3 hb hl h8 h9 h22 h14 h23 h24
    have b2 := b2'.less (fun _ => ordH_sub (H := H))
    have b3 := b3'.less (fun _ => ordH_sub (H := H))
    intro Kc Q hk
    refine wp_value (v := v') (ex_append (by rw [h11]; exact h21)) (hk w' F _ v' (fun _ => ⟨⟨b1, ?_⟩, by simpa [okV, okS] using c1⟩) b2 (ok3 b3) (fun h => nomatch h))
    rcases h22.2 with ⟨rfl, _⟩ | ⟨g, cap, cur, rfl, _⟩ <;> rfl
  · rename_i hC
    exact ⟨_, H, _, h, hkl, .inl rfl, fun _ hC' => absurd hC' hC⟩
/-! maps -/
theorem strEq_iff {a b : ByteArray} : strEq a b = true ↔ a = b := by
  unfold strEq
  rw [beq_iff_eq, ByteArray.toList_eq, ByteArray.toList_eq]
  exact ⟨fun h => ByteArray.ext (Array.toList_inj.mp h), fun h => by rw [h]⟩
theorem eqK_iff {ki : Bool} {s s0 : PS} {k k0 : Value} (h : KeyS ki s k) (h0 : KeyS ki s0 k0) : eqK s s0 = true ↔ k = k0 := by
  cases h with
  | i n => cases h0 with
    | i m => exact ⟨fun q => by have : n = m := by simpa [eqK] using q
                                rw [this], fun q => by cases q; simp [eqK]⟩
  | s x => cases h0 with
    | s y => exact ⟨fun q => by have : x = y := strEq_iff.1 q
                                rw [this], fun q => by cases q; exact strEq_iff.2 rfl⟩
theorem valB_ok {vi : Bool} {s : PS} {u : Value} (h : RN nb w F β (.one s) u) (hk : valB vi s = true) : RF w F s u := by
  unfold valB at hk
  split at hk
  · rw [RN_int h]; exact .int _ _
  · rw [RN_bool h]; exact .bool _
  · cases hk
theorem zeroS_ok {vi : Bool} : RF w F (zeroS vi) (zeroM vi) := by
  cases vi
  · exact .bool false
  · exact .int .i64 0
theorem vi_ok {t : TypeId} {vi : Bool} (h : viOf P t = some vi) : zeroB P t vi = true := by
  unfold viOf at h
  cases h1 : zeroB P t true
  · rw [h1] at h
    cases h2 : zeroB P t false
    · rw [h2] at h; cases h
    · rw [h2] at h; cases h; exact h2
  · rw [h1] at h; cases h; exact h1
theorem newM_ok (hI : Inv nb w F β H) {C : Bool} {o : Oper} {d : Tmp} (hd : o.dst = some d) {t kt et : TypeId} (hop : o.op = .makeMap t none) {k : PV → Heap → List Nat → Option α} (h : newM P nb base C H d kt et k = some z) :
    ∃ v H' kl, k v H' kl = some z ∧ (∀ x ∈ kl, lowK base ks x = false) ∧ (H' = H ∨ C = true) ∧ (C = true → Does P nb w F β H a o (okOf kl) v H') := by
  unfold newM at h
  split at h
  · rename_i ki vi hk hv
    split at h
    case isFalse => cases h
    rename_i hlt
    split at h
    · rename_i hC
      split at h
      · rename_i H' hH
        refine ⟨_, H', _, h, low_base, .inr hC, fun _ => ?_⟩
        obtain ⟨h1, h2⟩ := new_ok (u := .map (some w.heap.size)) hI hlt (w' := { w with heap := w.heap.push (.map #[] 0) }) (fun b hb => Blk_eq (k := w.heap.size) rfl hb ▸ by simp) (push_cls w _) hH (fun hst _ => ⟨w.heap.size, #[], 0, putB_same _ _ _, by simp, fun e he => (nomatch he), fun s k _ => ⟨zeroM vi, rfl, zeroS_ok⟩⟩)
        intro Kc Q hk'
        refine wp_value (v := .map (some w.heap.size)) ?_ (hk' _ F _ _ (fun _ => ⟨⟨putB_same _ _ _, rfl⟩, by simpa [okV, okS] using hlt⟩) h1 (one_run h2) (fun _ => push_cls _ _))
        obtain ⟨dst, op, ty, pos, after, guard⟩ := o
        simp only at hop
        subst hop
        simp [execOp, run_makeM]
      · cases h
    · rename_i hC
      exact ⟨_, H, _, h, low_base, .inl rfl, fun hC' => absurd hC' hC⟩
  · cases h
theorem put_map (hI : Inv nb w F β H) {o : Nat} {l l' : OB} (hm : (o, l) ∈ H) {u : Value} {b : Nat} (hb : β o = some u) (hk : Blk u b) (ob : Obj)
    (hob : Step (fun _ => true) w F β { w with heap := w.heap.setIfInBounds b ob } F β → okOB nb { w with heap := w.heap.setIfInBounds b ob } F β o l') :
    Inv nb { w with heap := w.heap.setIfInBounds b ob } F β (setH H o l') ∧ Run (fun _ => true) w F β H { w with heap := w.heap.setIfInBounds b ob } F β (setH H o l') := by
  have far : ∀ k, k ≠ b → (w.heap.setIfInBounds b ob)[k]? = w.heap[k]? := fun k hk => Array.getElem?_setIfInBounds_ne (fun e => hk e.symm)
  have hst : Step (fun _ => true) w F β { w with heap := w.heap.setIfInBounds b ob } F β := ⟨rfl, rfl, rfl, by simp, fun k hF => ⟨hF, far k (fun e => hI.apart o u b hb hk (e ▸ hF))⟩, fun _ _ _ h => h⟩
  have allT : ∀ l, obOk (fun _ => true) l = true := fun l => by
    cases l with
    | box l => exact List.all_eq_true.2 (fun s _ => by cases s <;> rfl)
    | _ => rfl
  refine ⟨⟨?_, ?_, hI.apart, hI.inj, fun k hF => by simpa using hI.lt k hF, fun x v k hx hv => by simpa using hI.ltβ x v k hx hv⟩, hst, ?_, ?_, fun _ h _ => .inl h⟩
  · intro x m m' hm1 hm2
    obtain ⟨⟨x0, m0⟩, h1, h2⟩ := List.mem_map.1 hm1
    obtain ⟨⟨x1, m1⟩, h3, h4⟩ := List.mem_map.1 hm2
    by_cases e : x0 = o <;> by_cases e' : x1 = o
    · rw [if_pos e] at h2; rw [if_pos e'] at h4
      rw [← (Prod.mk.inj h2).2, ← (Prod.mk.inj h4).2]
    · rw [if_pos e] at h2; rw [if_neg e'] at h4
      exact absurd ((Prod.mk.inj h4).1.trans (Prod.mk.inj h2).1.symm) e'
    · rw [if_neg e] at h2; rw [if_pos e'] at h4
      exact absurd ((Prod.mk.inj h2).1.trans (Prod.mk.inj h4).1.symm) e
    · rw [if_neg e] at h2; rw [if_neg e'] at h4
      obtain ⟨rfl, rfl⟩ := Prod.mk.inj h2
      obtain ⟨rfl, rfl⟩ := Prod.mk.inj h4
      exact hI.uniq _ _ _ h1 h3
  · intro x m hxm
    obtain ⟨⟨x0, m0⟩, h1, h2⟩ := List.mem_map.1 hxm
    by_cases e : x0 = o
    · subst e
      rw [if_pos rfl] at h2
      obtain ⟨rfl, rfl⟩ := Prod.mk.inj h2
      exact ⟨(hI.obj x0 l hm).1, hob hst⟩
    · rw [if_neg e] at h2
      obtain ⟨rfl, rfl⟩ := Prod.mk.inj h2
      obtain ⟨h3, h4⟩ := hI.obj x0 m0 h1
      exact ⟨h3, ob_move h4 hst (allT _) (fun _ h => h) (fun v b1 h5 h6 => far b1 (fun e1 => e (hI.inj x0 o v u b h5 hb (e1 ▸ h6) hk)))⟩
  · intro k _ hkn
    exact far k (fun e => hkn o l u hm hb (e ▸ hk))
  · intro x m v k hxm hxk hv _
    obtain ⟨⟨x0, m0⟩, h1, h2⟩ := List.mem_map.1 hxm
    by_cases e : x0 = o
    · subst e
      rw [if_pos rfl] at h2
      obtain ⟨rfl, rfl⟩ := Prod.mk.inj h2
      exact ⟨_, m0, v, h1, hxk, hv⟩
    · rw [if_neg e] at h2
      obtain ⟨rfl, rfl⟩ := Prod.mk.inj h2
      exact ⟨_, m0, v, h1, hxk, hv⟩
theorem upM_ok {g : Prop} (hI : Inv nb w F β H) {C : Bool} {oo : Oper} (hfr : freshOp oo.op = false) (hdst : oo.dst = none) {t kt et : TypeId} (ht : P.underlying t = some (.map kt et)) {o : Nat} {sy sv : PS} {um uy uv : Value} (hm : g → RN nb w F β (.one (.os o)) um) (hy : g → RN nb w F β (.one sy) uy) (hv : g → RN nb w F β (.one sv) uv)
    (hex : ∀ w', (Instr.mapUpdate t um uy uv).run P w = .ok () w' → (execOp a.eval oo).run P w = .ok .skip w') {k : PV → Heap → List Nat → Option α} (h : upM1 P C H kt o sy sv k = some z) :
    ∃ v H' kl, k v H' kl = some z ∧ (∀ x ∈ kl, lowK base ks x = false) ∧ (H' = H ∨ C = true) ∧ (g → C = true → Does P nb w F β H a oo (okOf kl) v H') := by
  unfold upM1 at h
  split at h
  · rename_i ki vi val dk hf hk
    split at h
    case isFalse => cases h
    rename_i hq
    simp only [Bool.and_eq_true] at hq
    obtain ⟨q1, q2, q3⟩ := hq
    split at h
    · rename_i hC
      refine ⟨_, _, _, h, fun x hx => (nomatch hx), .inr hC, fun hg _ => ?_⟩
      have hm := hm hg
      have hy := hy hg
      have hv := hv hg
      obtain ⟨h4, _⟩ := RV_os hm.1
      obtain ⟨r, es, c, h5, h6, h7, h8⟩ := (hI.obj o _ (findH_mem hf)).2
      rw [h5] at h4
      obtain rfl := Option.some.inj h4
      have hkey := keyB_ok hy q2
      have hrv := valB_ok hv q3
      obtain ⟨es', c', h9, h10, h11⟩ := run_putM (P := P) (z := zeroM vi) (v := uv) ht hk q1 h6 h7 hkey.key
      have hlt : r < w.heap.size := (Array.getElem?_eq_some_iff.1 h6).1
      obtain ⟨h12, h13⟩ := put_map (l' := .mp ki vi (putM val sy sv)) hI (findH_mem hf) h5 rfl (.map es' c') (fun hst => by
        refine ⟨r, es', c', h5, by simp [hlt], h10, fun s k0 hs => ?_⟩
        have e : putM val sy sv s = if eqK s sy = true then sv else val s := mrg_eq _ _ _
        have hi := eqK_iff hs hkey
        by_cases q : k0 = uy
        · refine ⟨uv, h11 k0 uv (fun _ => rfl) (fun n => absurd q n), ?_⟩
          rw [e, if_pos (hi.2 q)]; exact hrv.mono hst.read
        · obtain ⟨v0, a1, a2⟩ := h8 s k0 hs
          refine ⟨v0, h11 k0 v0 (fun n => absurd n q) (fun _ => a1), ?_⟩
          rw [e, if_neg (fun n => q (hi.1 n))]; exact a2.mono hst.read)
      intro Kc Q hk'
      unfold Oper.wp
      rw [hex _ h9]
      have := hk' _ F β undef (fun h => absurd hdst h) h12 (h13.weaken (fun _ _ => rfl)) (fun h => by rw [hfr] at h; cases h)
      exact this
    · rename_i hC
      exact ⟨_, H, _, h, fun x hx => (nomatch hx), .inl rfl, fun _ hC' => absurd hC' hC⟩
  · cases h
theorem o1_ok (hM : Sound P L M) (hL : okG w F L) (hI : Inv nb w F β H) (hE : okE nb w F β a.tmps E) {C St : Bool} {o : Oper} {k : PV → Heap → List Nat → Option α} (h : o1 P L M D ks nb base E G C St H o.dst o.op k = some z) :
    ∃ v H' kl, k v H' kl = some z ∧ (∀ x ∈ kl, lowK base ks x = false) ∧ (H' = H ∨ (St = true ∧ C = true)) ∧ (holdsG a.tmps G → C = true → Does P nb w F β H a o (fun x => okOf kl x && decide (x < nb)) v H') := by
  have wk : ∀ {o : Oper} {ok ok' : Nat → Bool} {v : PV} {H' : Heap}, (∀ x, ok' x = true → ok x = true) → Does P nb w F β H a o ok v H' → Does P nb w F β H a o ok' v H' := fun hi h Kc Q hk => h Kc Q (fun w' F' β' u h1 h2 h3 h4 => hk w' F' β' u h1 h2 (h3.weaken hi) h4)
  have wk1 : ∀ {o : Oper} {kl : List Nat} {v : PV} {H' : Heap}, Does P nb w F β H a o (okOf kl) v H' → Does P nb w F β H a o (fun x => okOf kl x && decide (x < nb)) v H' := fun h => wk (fun x hx => (Bool.and_eq_true _ _ ▸ hx).1) h
  have wk2 : ∀ {o : Oper} {kl : List Nat} {v : PV} {H' : Heap}, Does P nb w F β H a o (fun x => decide (x < nb)) v H' → Does P nb w F β H a o (fun x => okOf kl x && decide (x < nb)) v H' := fun h => wk (fun x hx => (Bool.and_eq_true _ _ ▸ hx).2) h
  have noK : ∀ x ∈ ([] : List Nat), lowK base ks x = false := fun x hx => (nomatch hx)
  have someK : ∀ {d : Nat}, ∀ x ∈ [base + d], lowK base ks x = false := low_base
  obtain ⟨dst, op, ty, pos, after, guard⟩ := o
  simp only at h
  unfold o1 at h
  split at h
  · -- alloc
    rename_i t
    split at h
    case isFalse => cases h
    rename_i hSt
    split at h
    · rename_i d zl hz
      split at h
      case isFalse => cases h
      rename_i hlt
      split at h
      · rename_i hC
        split at h
        · rename_i H' hH
          refine ⟨_, H', _, h, someK, .inr ⟨hSt, hC⟩, fun hG _ => wk1 ?_⟩
          obtain ⟨i, v, h1, h2, h3, h4⟩ := zero_ok (nb := nb) (w := w) (F := F) (β := β) hz
          refine new_does (cv := v) (t := t) hI hlt h4 h3 hH ?_
          simp [execOp, Instr.alloc, zeroValue, typeInfo, h1, h2, newVar, newRow, newObj, Sem.run]
        · cases h
      · rename_i hC
        exact ⟨_, H, _, h, someK, .inl rfl, fun _ hC' => absurd hC' hC⟩
    · cases h
  · -- box
    rename_i t x
    split at h
    case isFalse => cases h
    rename_i hSt
    split at h
    · rename_i d v hx
      split at h
      · rename_i zl hz
        split at h
        case isFalse => cases h
        rename_i hlt
        split at h
        · rename_i hC
          split at h
          · rename_i H' hH
            refine ⟨_, H', _, h, someK, .inr ⟨hSt, hC⟩, fun hG _ => wk1 ?_⟩
            obtain ⟨h3, h4⟩ := cells_of hE hL hG hx hz
            refine new_does (cv := a.eval x) (t := t) hI hlt h4 h3 hH ?_
            simp [execOp, Instr.box, newVar, newRow, newObj, Sem.run]
          · cases h
        · rename_i hC
          exact ⟨_, H, _, h, someK, .inl rfl, fun _ hC' => absurd hC' hC⟩
      · cases h
    · cases h
  · -- store
    rename_i t x y
    have sto : ∀ {v : PV} {vl : List PS} {n b off : Nat}, holdsG a.tmps G → opnd L E G y = some v → cellsOf v = some vl → sizeIn P t = some n → n = vl.length → a.eval x = .pointer (some ⟨b, off, none⟩) → w.there b off (a.eval y).cells.toList.length → (execOp a.eval ⟨none, .store t x y, ty, pos, after, guard⟩).run P w = .ok .skip (w.setCells b off (a.eval y).cells.toList) := by
      intro v vl n b off hG hy hv hn hlen hxv h5
      obtain ⟨h3, h4⟩ := cells_of hE hL hG hy hv
      have hone := one_cells h3
      have e1 : vl.length = (a.eval y).cells.size := by have := h3.length; simpa using this
      have hst : (Instr.storeAt t (.pointer (some ⟨b, off, none⟩)) (a.eval y)).run P w = .ok () (w.setCells b off (a.eval y).cells.toList) := by
        have := run_storeAt_mid (P := P) w b off t (a.eval y).cells (by simpa using h5) (by rw [← e1, ← hlen]; exact hn) (all_oneCell_toArray hone)
        cases v with
        | one s =>
          have h8 := RS_notagg (opnd_ok hL hE hG hy).1
          have h9 := run_storeCells_cells (P := P) b off (a.eval y).cells.toList 0 w (fun j hj => by simpa using (h5 j (by simpa using hj)).1) (fun j hj => by simpa using (h5 j (by simpa using hj)).2) hone
          obtain ⟨i, hi, hi2⟩ := Option.map_eq_some_iff.1 hn
          have h10 : (a.eval y).cells.size = i.size := by rw [hi2, hlen, e1]
          simp only [Nat.add_zero] at h9
          simp [Instr.storeAt, Instr.sureAddr, storeVar, sizeOf, typeInfo, hi, h10, h9]
        | agg l =>
          obtain ⟨m, hm, _⟩ := (opnd_ok hL hE hG hy).1
          rw [hm] at this ⊢
          exact this
        | tup l => cases hv
        | fn _ _ => cases hv
      simp [execOp, hxv, hst]
    split at h
    case isFalse => cases h
    rename_i hSt
    split at h
    · rename_i ob off v hx hy
      split at h
      · rename_i vl cells n hv hc hn
        split at h
        case isFalse => cases h
        rename_i hlen
        split at h
        · rename_i hC
          refine ⟨_, _, _, h, noK, .inr ⟨hSt, hC⟩, fun hG _ => wk1 ?_⟩
          intro Kc Q hk
          obtain ⟨b, hb, hxv⟩ := RV_ptr (opnd_ok hL hE hG hx).1
          obtain ⟨h3, h4⟩ := cells_of hE hL hG hy hv
          obtain ⟨h5, h6, h7⟩ := set_box hI (findH_mem hc) hb h3 h4 hlen.2
          unfold Oper.wp
          rw [sto hG hy hv hn hlen.1 hxv h5]
          exact hk _ F β undef (fun h => absurd rfl h) h6 (h7.weaken (fun _ _ => rfl)) (fun h => nomatch h)
        · rename_i hC
          exact ⟨_, H, _, h, noK, .inl rfl, fun _ hC' => absurd hC' hC⟩
      · cases h
    · rename_i ob e i off r hx hy
      split at h
      case h_2 => cases h
      rename_i te nn b hole te2 e2 n2 row2 n hf hr hn
      split at h
      case h_2 => cases h
      rename_i te3 e3 n3 st len row hfb
      split at h
      case isFalse => cases h
      rename_i hc
      simp only [Bool.and_eq_true, decide_eq_true_eq, Bool.not_eq_true'] at hc
      obtain ⟨⟨rfl, rfl, rfl, rfl, rfl⟩, hkb, hkr⟩ := hc
      have hkl : ∀ y ∈ [b, r], lowK base ks y = false := fun y hy => by
        simp only [List.mem_cons, List.not_mem_nil, or_false] at hy
        rcases hy with rfl | rfl <;> assumption
      split at h
      · rename_i hC
        split at h
        case isFalse => cases h
        rename_i hi
        simp only [Bool.and_eq_true, decide_eq_true_eq] at hi
        obtain ⟨hi1, hi2, hi3⟩ := hi
        refine ⟨_, _, _, h, hkl, .inr ⟨hSt, hC⟩, fun hG _ => wk1 ?_⟩
        intro Kc Q hk
        obtain ⟨bo, n', c', hb, hxv⟩ := RV_rp (opnd_ok hL hE hG hx).1
        obtain ⟨hu, hh⟩ := RV_os (opnd_ok hL hE hG hy).1
        have hcells : (a.eval y).cells = #[a.eval y] := RS_notagg (w := w) (F := F) (β := β) (s := .os r) ⟨hu, hh⟩
        have hhole : hole = none ∨ hole = some i := by
          cases hole with
          | none => exact .inl rfl
          | some j => right; simp [holeI] at hi2; rw [hi2]
        obtain ⟨h5, β', b1, b2', b3'⟩ := putF_ok hI (findH_mem hf) (findH_mem hfb) (findH_mem hr) hi1 hhole hi3 hb hu
        have b2 := b2'.less (fun _ => ordH_sub (H := H))
        have b3 := b3'.less (fun _ => ordH_sub (H := H))
        unfold Oper.wp
        rw [sto hG hy rfl hn rfl hxv (by rw [hcells]; exact h5)]
        rw [hcells]
        exact hk _ F β' undef (fun h => absurd rfl h) b2 (ok3 b3) (fun h => nomatch h)
      · rename_i hC
        exact ⟨_, H, _, h, hkl, .inl rfl, fun _ hC' => absurd hC' hC⟩
    · rename_i b i e q off v hx hy
      split at h
      · rename_i vl te e' nn st len row n hv hc hn
        split at h
        case isFalse => cases h
        rename_i hlen
        obtain ⟨hlen1, hlen2, hlen3, hlen4⟩ := hlen
        subst hlen3
        split at h
        · rename_i hC
          split at h
          case isFalse => cases h
          rename_i hi
          refine ⟨_, _, _, h, noK, .inr ⟨hSt, hC⟩, fun hG _ => wk1 ?_⟩
          intro Kc Q hk
          obtain ⟨l, bi, n', c', hb, hl, hxv⟩ := RV_fp (opnd_ok hL hE hG hx).1
          obtain ⟨h3, h4⟩ := cells_of hE hL hG hy hv
          obtain ⟨h5, h6, h7⟩ := setF_ok hI (findH_mem hc) hb hl h3 hlen4 (by simpa using hi) hlen2
          unfold Oper.wp
          rw [sto hG hy hv hn hlen1 hxv h5]
          exact hk _ F β undef (fun h => absurd rfl h) h6 (h7.weaken (fun _ _ => rfl)) (fun h => nomatch h)
        · rename_i hC
          exact ⟨_, H, _, h, noK, .inl rfl, fun _ hC' => absurd hC' hC⟩
      · cases h
    · rename_i ob e i off v _ hx hy
      split at h
      · rename_i vl te e' nn row n hv hc hn
        split at h
        case isFalse => cases h
        rename_i hlen
        obtain ⟨hlen1, hlen2, hlen3, hlen4⟩ := hlen
        subst hlen3
        split at h
        · rename_i hC
          split at h
          case isFalse => cases h
          rename_i hi
          refine ⟨_, _, _, h, noK, .inr ⟨hSt, hC⟩, fun hG _ => wk1 ?_⟩
          intro Kc Q hk
          obtain ⟨b, n', c', hb, hxv⟩ := RV_rp (opnd_ok hL hE hG hx).1
          obtain ⟨h3, h4⟩ := cells_of hE hL hG hy hv
          obtain ⟨h5, h6, h7⟩ := set_row hI (findH_mem hc) hb h3 hlen4 (by simpa using hi) hlen2
          unfold Oper.wp
          rw [sto hG hy hv hn hlen1 hxv h5]
          exact hk _ F β undef (fun h => absurd rfl h) h6 (h7.weaken (fun _ _ => rfl)) (fun h => nomatch h)
        · rename_i hC
          exact ⟨_, H, _, h, noK, .inl rfl, fun _ hC' => absurd hC' hC⟩
      · cases h
    · cases h
  · -- buildSlice
    split at h
    case isFalse => cases h
    rename_i hSt
    split at h
    · rename_i d te ht
      split at h
      · obtain ⟨v, H', kl, h1, h2, h3, h4⟩ := litF1_ok (o := ⟨_, _, ty, pos, after, guard⟩) hL hI hE rfl ht h
        exact ⟨v, H', kl, h1, h2, h3.imp id (fun h => ⟨hSt, h⟩), fun hG hC => wk1 (h4 hG hC)⟩
      obtain ⟨v, H', kl, h1, h2, h3, h4⟩ := lit_ok (o := ⟨_, _, ty, pos, after, guard⟩) hL hI hE rfl rfl ht h
      exact ⟨v, H', kl, h1, h2, h3.imp id (fun h => ⟨hSt, h⟩), fun hG hC => wk1 (h4 hG hC)⟩
    · cases h
  · -- makeSlice
    split at h
    case isFalse => cases h
    rename_i hSt
    split at h
    · rename_i d te k1 n k2 n2 ht hx hy
      split at h
      · obtain ⟨v, H', kl, h1, h2, h3, h4⟩ := mkF1_ok (ks := ks) (o := ⟨_, _, ty, pos, after, guard⟩) hL hI hE rfl rfl ht hx hy h
        exact ⟨v, H', kl, h1, h2, h3.imp id (fun h => ⟨hSt, h⟩), fun hG hC => wk1 (h4 hG hC)⟩
      obtain ⟨v, H', kl, h1, h2, h3, _, h4⟩ := make_ok (ks := ks) (o := ⟨_, _, ty, pos, after, guard⟩) hL hI hE rfl rfl ht hx hy h
      exact ⟨v, H', kl, h1, h2, h3.imp id (fun h => ⟨hSt, h⟩), fun hG hC => wk1 (h4 hG hC)⟩
    · cases h
  · -- makeMap
    split at h
    case isFalse => cases h
    rename_i hSt
    split at h
    · rename_i d kt et ht
      obtain ⟨v, H', kl, h1, h2, h3, h4⟩ := newM_ok (ks := ks) (a := a) (o := ⟨_, _, ty, pos, after, guard⟩) hI rfl rfl h
      exact ⟨v, H', kl, h1, h2, h3.imp id (fun h => ⟨hSt, h⟩), fun _ hC => wk1 (h4 hC)⟩
    · cases h
  · -- mapUpdate
    rename_i t x y v
    split at h
    case isFalse => cases h
    rename_i hSt
    split at h
    · rename_i o sy sv kt et hx hy hv ht
      obtain ⟨v, H', kl, h1, h2, h3, h4⟩ := upM_ok (ks := ks) (a := a) (g := holdsG a.tmps G) (oo := ⟨none, .mapUpdate t x y v, ty, pos, after, guard⟩) hI rfl rfl ht (fun hG => opnd_ok hL hE hG hx) (fun hG => opnd_ok hL hE hG hy) (fun hG => opnd_ok hL hE hG hv) (fun w' hr => by simp [execOp, hr]) h
      exact ⟨v, H', kl, h1, h2, h3.imp id (fun h => ⟨hSt, h⟩), fun hG hC => wk1 (h4 hG hC)⟩
    · cases h
  · -- insert
    rename_i t x y v
    split at h
    case isFalse => cases h
    rename_i hSt
    split at h
    · rename_i o sy sv kt et hx hy hv ht
      obtain ⟨v, H', kl, h1, h2, h3, h4⟩ := upM_ok (ks := ks) (a := a) (g := holdsG a.tmps G) (oo := ⟨none, .insert t x y v, ty, pos, after, guard⟩) hI rfl rfl ht (fun hG => opnd_ok hL hE hG hx) (fun hG => opnd_ok hL hE hG hy) (fun hG => opnd_ok hL hE hG hv) (fun w' hr => by simp [execOp, hr]) h
      exact ⟨v, H', kl, h1, h2, h3.imp id (fun h => ⟨hSt, h⟩), fun hG hC => wk1 (h4 hG hC)⟩
    · cases h
  · -- append
    split at h
    case isFalse => cases h
    rename_i hSt
    split at h
    · rename_i d te ht hs hx
      split at h
      · rename_i htt
        obtain ⟨htt, hsz⟩ := htt
        subst htt
        refine ⟨_, H, _, h, noK, .inl rfl, fun hG _ => wk1 ?_⟩
        obtain ⟨e, he⟩ := Option.isSome_iff_exists.1 hsz
        obtain ⟨i, hi, _⟩ := Option.map_eq_some_iff.1 he
        intro Kc Q hk
        refine wp_value (v := .slice none 0 0) (ex_append (by rw [RV_nils (opnd_ok hL hE hG hs).1, RV_nils (opnd_ok hL hE hG hx).1]; exact run_append_none (e := 0) (xs := []) ht hi ⟨by simp, .inl ⟨rfl, rfl⟩⟩)) (hk w F β _ (fun _ => ⟨.nils, rfl⟩) hI (Run.refl _ _ _ _ _) (fun h => nomatch h))
      · cases h
    · rename_i d te b i xv _ ht hs hx
      split at h
      · rename_i htt
        subst htt
        obtain ⟨v, H', kl, h1, h2, h3, h4⟩ := takF1_ok (o := ⟨_, _, ty, pos, after, guard⟩) hL hI hE rfl ht hs hx h
        exact ⟨v, H', kl, h1, h2, h3.imp id (fun h => ⟨hSt, h⟩), fun hG hC => wk1 (h4 hG hC)⟩
      · cases h
    · rename_i d te sv xv _ ht hs hx
      split at h
      · rename_i htt
        subst htt
        split at h
        · obtain ⟨v, H', kl, h1, h2, h3, h4⟩ := appF1_ok (o := ⟨_, _, ty, pos, after, guard⟩) hL hI hE rfl ht hs hx h
          exact ⟨v, H', kl, h1, h2, h3.imp id (fun h => ⟨hSt, h⟩), fun hG hC => wk1 (h4 hG hC)⟩
        obtain ⟨v, H', kl, h1, h2, h3, h4⟩ := app1_ok (o := ⟨_, _, ty, pos, after, guard⟩) hL hI hE rfl rfl ht hs hx h
        exact ⟨v, H', kl, h1, h2, h3.imp id (fun h => ⟨hSt, h⟩), fun hG hC => wk1 (h4 hG hC)⟩
      · cases h
    · cases h
  · -- call
    rename_i fo xs ats
    split at h
    case isFalse => cases h
    rename_i hSt
    split at h
    · rename_i f caps vs hf hvs
      by_cases hC : C = true
      · rw [if_pos hC] at h
        by_cases hro : roD D f = true
        · rw [if_pos hro] at h
          unfold cR at h
          split at h
          case isFalse => cases h
          rename_i hfl
          obtain ⟨⟨pb, v, H'⟩, h1, h2⟩ := Option.bind_eq_some_iff.1 h
          simp only at h2
          split at h2
          case isFalse => cases h2
          rename_i hpb
          subst hpb
          split at h2
          case h_2 => cases h2
          rename_i u0 hp
          refine ⟨v, H, [], h2, noK, .inl rfl, fun hG _ => (fun Kc Q hk => ?_)⟩
          obtain ⟨m, hfv, hcaps⟩ := (opnd_ok hL hE hG hf).1
          have hcn := (opnd_ok hL hE hG hf).2
          obtain ⟨⟨fn, hfn, hname, hb⟩, h3⟩ := ro_call hM hL hI (all2_app_caps (mapM_opnd hL hE hG hvs) hcaps hcn) hfl h1 hp (Sees.refl (w := w))
          unfold Oper.wp
          rw [ex_call hfv]
          have e1 : ((#[] ++ xs.map a.eval) ++ m.toArray : Array Value) = (xs.toList.map a.eval ++ m).toArray := by apply Array.toList_inj.1; simp
          rw [e1, enters_ hfn hname hb _ w, Oper.upon_enter]
          refine h3.mono ?_
          rintro e w' ⟨rfl, hcl⟩
          have hs := fun ok => step_cls (β := β) ok hI.lt hcl
          exact hk w' F β u0 (fun _ => plain_rn hp) (hI.cls hcl) ⟨hs _, fun b hb _ => hcl.block b hb, fun o l u b h1 h2 h3 _ => ⟨o, l, u, h1, h2, h3⟩, fun _ h _ => .inl h⟩ (fun h => nomatch h)
        rw [if_neg hro] at h
        by_cases hG : holdsG a.tmps G
        · obtain ⟨m, hfv, hcaps⟩ := (opnd_ok hL hE hG hf).1
          have hcn := (opnd_ok hL hE hG hf).2
          obtain ⟨v, H', kl, h1, hkl, ⟨fn, hfn, hname, hb⟩, h3⟩ := call_ok hM hL hI (all2_app_caps (mapM_opnd hL hE hG hvs) hcaps hcn) h
          refine ⟨v, H', kl, h1, hkl, .inr ⟨hSt, hC⟩, fun _ _ => (fun Kc Q hk => ?_)⟩
          unfold Oper.wp
          rw [ex_call hfv]
          have e1 : ((#[] ++ xs.map a.eval) ++ m.toArray : Array Value) = (xs.toList.map a.eval ++ m).toArray := by apply Array.toList_inj.1; simp
          rw [e1, enters_ hfn hname hb _ w, Oper.upon_enter]
          refine h3.mono ?_
          rintro e w' ⟨u, F', β', rfl, h4, h5, h6⟩
          exact hk w' F' β' u (fun _ => h4) h5 h6 (fun h => nomatch h)
        · obtain ⟨v, H', kl, h1, hkl⟩ : ∃ v H' kl, k v H' kl = some z ∧ (∀ x ∈ kl, lowK base ks x = false) := by
            unfold c1 at h
            split at h
            · obtain ⟨⟨pb, v, H'⟩, _, h2⟩ := Option.bind_eq_some_iff.1 h
              simp only at h2
              split at h2
              case isFalse => cases h2
              split at h2
              · split at h2
                case isFalse => cases h2
                exact ⟨_, _, _, h2, fun x hx => (nomatch hx)⟩
              · split at h2
                case isFalse => cases h2
                obtain ⟨v', H', kl, q1, q2, _⟩ := ad1_ok (w := w) (F := F) (β := β) (H := H) (ok := fun x => decide (x < nb)) (ks := ks) (fun x hx => by simpa using hx) h2
                exact ⟨v', H', kl, q1, q2⟩
              · cases h2
            · exact cF_kl h
          exact ⟨v, H', kl, h1, hkl, .inr ⟨hSt, hC⟩, fun hG' => absurd hG' hG⟩
      · rw [if_neg hC] at h
        exact ⟨_, H, _, h, noK, .inl rfl, fun _ hC' => absurd hC' hC⟩
    · cases h
  · -- an array is sliced
    rename_i t x
    split at h
    · rename_i ob n te hp ht
      have hx : opnd L E G x = some (.one (.ptr ob 0)) := by
        unfold ptr0 at hp
        split at hp
        · rename_i o2 h2; rw [h2, ← Option.some.inj hp]
        · cases hp
      unfold arr1 at h
      split at h
      case isFalse => cases h
      rename_i hSt
      split at h
      · rename_i l e hf he
        split at h
        case isFalse => cases h
        rename_i hq
        rw [Bool.and_eq_true, decide_eq_true_eq] at hq
        obtain ⟨⟨hb1, hb2, hb3, hb4⟩, hb5⟩ := hq
        split at h
        · rename_i hC
          refine ⟨_, _, _, h, fun y hy => by rw [List.mem_singleton.1 hy]; simp only [lowK, Bool.and_eq_false_iff, decide_eq_false_iff_not]; exact .inl (Nat.not_lt.2 hb1), .inr ⟨hSt, hC⟩, fun hG _ => wk1 ?_⟩
          intro Kc Q hk
          obtain ⟨b, hb, hxv⟩ := RV_ptr (opnd_ok hL hE hG hx).1
          have hm := findH_mem hf
          obtain ⟨_, _, b', c, t', hb', hh, hc⟩ := hI.obj ob _ hm
          obtain rfl := ptr_inj hb hb'
          obtain ⟨h5, h6⟩ := frz_ok (s' := .nilp) hI hm rfl (fun u e h => by rw [hb] at e; cases e; cases h)
          have hcell : ∀ i j, i < n → j < e → ∃ v, w.cell? ⟨b, 0 + (i * e + j), none⟩ = some v ∧ RF w (moreF ob β F) (litRow e l i j) v := fun i j hi hj => by
            have hlt : i * e + j < l.length := by rw [hb3]; exact row_lt hi hj
            obtain ⟨v, q1, q2⟩ := hc.get (List.getElem?_eq_getElem hlt)
            refine ⟨v, ?_, ?_⟩
            · rw [cell_of_row w b (0 + (i * e + j)) c t' (0, 0) hh, Nat.zero_add]; simpa using q1
            · have e2 : litRow e l i j = l[i * e + j] := by rw [litRow_at hb3 hi hj]; simp [List.getD_eq_getElem?_getD, hlt]
              rw [e2]
              exact ((RS_of (List.all_eq_true.1 hb5 _ (List.getElem_mem hlt))).1 q2).mono (off_step ob w F β).read
          have hcell2 : ∀ i j, i < n → j < e → w.cell? ⟨b, 0 + (i * e + j), none⟩ = some ((w.cell? ⟨b, 0 + (i * e + j), none⟩).getD undef) ∧ RF w (moreF ob β F) (litRow e l i j) ((w.cell? ⟨b, 0 + (i * e + j), none⟩).getD undef) := fun i j hi hj => by
            obtain ⟨v, q1, q2⟩ := hcell i j hi hj
            rw [q1]; exact ⟨rfl, q2⟩
          refine wp_value (v := .slice (some ⟨b, 0, none⟩) n n) (ex_slice_arr hxv ht he) (hk w _ _ _ (fun _ => ⟨?_, rfl⟩) h5 (one_run h6) (fun h => nomatch h))
          exact RF.view n e _ b 0 n (fun i j => (w.cell? ⟨b, 0 + (i * e + j), none⟩).getD undef) hb4 (Nat.le_refl _) (.inr ⟨_, hb, rfl⟩) (fun i j hi hj => (hcell2 i j hi hj).1) (fun i j hi hj => (hcell2 i j hi hj).2)
        · rename_i hC
          exact ⟨_, H, _, h, fun y hy => by rw [List.mem_singleton.1 hy]; simp only [lowK, Bool.and_eq_false_iff, decide_eq_false_iff_not]; exact .inl (Nat.not_lt.2 hb1), .inl rfl, fun _ hC' => absurd hC' hC⟩
      · cases h
    · obtain ⟨v, h1, h2⟩ := vq_ok (o := ⟨dst, _, ty, pos, after, guard⟩) hL hI hE h
      refine ⟨v, H, _, h1, noK, .inl rfl, fun hG hC => wk1 (fun Kc Q hk => ?_)⟩
      obtain ⟨u, h3, h4⟩ := h2 hG hC
      exact wp_value (h4 w Sees.refl) (hk w F β u (fun _ => h3) hI (Run.refl _ _ _ _ _) (fun _ => Below.refl _ _))
  · obtain ⟨v, h1, h2⟩ := vq_ok (o := ⟨dst, op, ty, pos, after, guard⟩) hL hI hE h
    refine ⟨v, H, _, h1, noK, .inl rfl, fun hG hC => wk1 (fun Kc Q hk => ?_)⟩
    obtain ⟨u, h3, h4⟩ := h2 hG hC
    exact wp_value (h4 w Sees.refl) (hk w F β u (fun _ => h3) hI (Run.refl _ _ _ _ _) (fun _ => Below.refl _ _))
end sound
end Go.Proofs.Ytobfnncpjkeloaa.Ev
