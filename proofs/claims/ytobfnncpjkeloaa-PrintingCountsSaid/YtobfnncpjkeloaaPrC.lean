import Derived.Shelf.Sort.Plain
import Derived.Sort.OwnSortedInts
import Derived.Test.YtobfnncpjkeloaaPrB
/-! The shelf's contract of slices.Sort, laid at this program (lay-shelf.mjs, lay-plain.mjs). -/
namespace Go.Proofs
open Go Go.Shelf
set_option maxRecDepth 1000000
def Try.lays189_ren : Go.Shelf.Ren := ⟨fun | 189 => 23 | 125 => 41 | 257 => 40 | 128 => 59 | 129 => 60 | 294 => 50 | 295 => 51 | 296 => 52 | 297 => 53 | 298 => 54 | 299 => 55 | 216 => 56 | 300 => 57 | 301 => 58 | 328 => 63 | 329 => 64 | 330 => 65 | 331 => 66 | 332 => 67 | 215 => 68 | 343 => 71 | n => n, fun | 28 => 35 | 3 => 3 | 46 => 91 | 0 => 0 | 51 => 109 | 53 => 111 | 4 => 4 | 183 => 101 | 182 => 100 | 131 => 106 | 5 => 5 | 9 => 9 | 218 => 113 | 222 => 117 | 228 => 120 | 229 => 121 | n => n, fun | n => n⟩
theorem Try.lays189 : Go.Proofs.Lays.n189 Try.prog Try.lays189_ren := {
  mixed := by kernel_rfl
  f125 := Try.func41.trans (congrArg some (by kernel_rfl))
  f128 := Try.func59.trans (congrArg some (by kernel_rfl))
  f129 := Try.func60.trans (congrArg some (by kernel_rfl))
  f189 := Try.func23.trans (congrArg some (by kernel_rfl))
  f215 := Try.func68.trans (congrArg some (by kernel_rfl))
  f216 := Try.func56.trans (congrArg some (by kernel_rfl))
  f257 := Try.func40.trans (congrArg some (by kernel_rfl))
  f294 := Try.func50.trans (congrArg some (by kernel_rfl))
  f295 := Try.func51.trans (congrArg some (by kernel_rfl))
  f296 := Try.func52.trans (congrArg some (by kernel_rfl))
  f297 := Try.func53.trans (congrArg some (by kernel_rfl))
  f298 := Try.func54.trans (congrArg some (by kernel_rfl))
  f299 := Try.func55.trans (congrArg some (by kernel_rfl))
  f300 := Try.func57.trans (congrArg some (by kernel_rfl))
  f301 := Try.func58.trans (congrArg some (by kernel_rfl))
  f328 := Try.func63.trans (congrArg some (by kernel_rfl))
  f329 := Try.func64.trans (congrArg some (by kernel_rfl))
  f330 := Try.func65.trans (congrArg some (by kernel_rfl))
  f331 := Try.func66.trans (congrArg some (by kernel_rfl))
  f332 := Try.func67.trans (congrArg some (by kernel_rfl))
  f343 := Try.func71.trans (congrArg some (by kernel_rfl))
  t0 := Try.underlying0
  a0 := Try.isAgg0
  z0 := Try.sizeOf0
  v0 := Try.zeroValue0
  t3 := Try.underlying3
  a3 := Try.isAgg3
  z3 := Try.sizeOf3
  v3 := Try.zeroValue3
  t4 := Try.underlying4
  a4 := Try.isAgg4
  z4 := Try.sizeOf4
  v4 := Try.zeroValue4
  t5 := Try.underlying5
  a5 := Try.isAgg5
  z5 := Try.sizeOf5
  v5 := Try.zeroValue5
  t9 := Try.underlying9
  a9 := Try.isAgg9
  z9 := Try.sizeOf9
  v9 := Try.zeroValue9
  t28 := Try.underlying35
  a28 := Try.isAgg35
  z28 := Try.sizeOf35
  v28 := Try.zeroValue35
  t46 := Try.underlying91
  a46 := Try.isAgg91
  z46 := Try.sizeOf91
  v46 := Try.zeroValue91
  t51 := Try.underlying109
  a51 := Try.isAgg109
  z51 := Try.sizeOf109
  v51 := Try.zeroValue109
  t53 := Try.underlying111
  a53 := Try.isAgg111
  z53 := Try.sizeOf111
  v53 := Try.zeroValue111
  t131 := Try.underlying106
  a131 := Try.isAgg106
  z131 := Try.sizeOf106
  v131 := Try.zeroValue106
  t182 := Try.underlying100
  a182 := Try.isAgg100
  z182 := Try.sizeOf100
  v182 := Try.zeroValue100
  t183 := Try.underlying101
  a183 := Try.isAgg101
  z183 := Try.sizeOf101
  v183 := Try.zeroValue101
  t218 := Try.underlying113
  a218 := Try.isAgg113
  z218 := Try.sizeOf113
  v218 := Try.zeroValue113
  t222 := Try.underlying117
  a222 := Try.isAgg117
  z222 := Try.sizeOf117
  v222 := Try.zeroValue117
  t228 := Try.underlying120
  a228 := Try.isAgg120
  z228 := Try.sizeOf120
  v228 := Try.zeroValue120
  t229 := Try.underlying121
  a229 := Try.isAgg121
  z229 := Try.sizeOf121
  v229 := Try.zeroValue121 }
open Go.Sort Go.RowKit in
theorem Try.slices_Sort_int (blk off cap : Nat) (zs : List Int) (w : World) (hH : Holds (Value.int .i64) w blk off zs.toArray) (hblk : blk < w.heap.size) (hsz : zs.length < 4611686018427387904) :
    Calls Try.prog 23 #[.slice (some ⟨blk, off, none⟩) zs.length cap] w fun e w' =>
      e = .returned (.tuple #[]) ∧ ∃ n os, w' = grow (putRow (Value.int .i64) (Sort.ahead w n) blk off (zs.mergeSort fun x y => decide (x ≤ y)).toArray) os := Any.slices_Sort_int Try.lays189 blk off cap zs w hH hblk hsz
end Go.Proofs
namespace Go.Proofs.Ytobfnncpjkeloaa.Sh
open Go Go.RowKit Go.Proofs.Ytobfnncpjkeloaa.Ev Go.Proofs.Try
set_option linter.unusedVariables false
/-! slices.Sort -/
def q_srt (l : List Int) : List Int := l.mergeSort fun x y => decide (x ≤ y)
theorem srt_len (l : List Int) : (q_srt l).length = l.length := List.length_mergeSort _
theorem nofold {w : World} {F : Nat → Prop} {s : PS} {v : Value} {k : IntKind} {x : Int} (h : RF w F s v) (e : s = .int k x) : v = .int k x := by subst e; cases h; rfl
def q_soP (n : Nat) (row : Nat → Nat → PS) : Prop := q_isI row ∧ 0 < n ∧ n ≤ 1000000
noncomputable def aSo : Nat → List PV → Heap → Option (Bool × PV × Heap)
  | 1, [.one (.os 0)], [(0, .rows 3 1 n row)] => some (q_dec (q_soP n row), .tup [], [(0, .rows 3 1 n (ri (q_srt (q_li n row))))])
  | _, _, _ => none
theorem so_go : goesTo prog 23 := ⟨_, func23, by kernel_rfl, by kernel_rfl⟩
theorem so_ok (M : Orac) (hM : Sound prog gl M) : Sound prog gl (addM 23 aSo M) := by
  intro nb f vs H v H' h w F β us hL hI hus
  unfold addM at h
  by_cases hf : f = 23
  case neg => rw [if_neg hf] at h; exact hM nb f vs H v H' h w F β us hL hI hus
  rw [if_pos hf] at h
  subst hf
  unfold aSo at h
  split at h
  case h_2 => cases h
  rename_i n row
  simp only [Option.some.injEq, Prod.mk.injEq] at h
  obtain ⟨h1, rfl, rfl⟩ := h
  obtain ⟨⟨B, J, rfl⟩, hn, hn2⟩ := q_dec_iff.1 h1
  refine ⟨so_go, ?_⟩
  cases hus with
  | cons hu hr =>
  cases hr
  rename_i u
  obtain ⟨hb0, hh⟩ := RV_os hu.1
  obtain ⟨_, v, xs, q1, q2, q3⟩ := hI.obj 0 _ (List.mem_cons_self ..)
  rw [hb0] at q1
  obtain rfl := Option.some.inj q1
  obtain ⟨e1, ⟨_, h0⟩ | ⟨g, cap, cur, rfl, hg, hcell, hcap, hmax, hsz, htake⟩⟩ := q2
  · omega
  have hxs : xs = (q_li n (rj 1 B J)).map (Value.int .i64) := by
    apply List.ext_getElem?
    intro i
    by_cases hi : i < n
    · obtain ⟨c, c1, c2⟩ := q3 i 0 hi (by omega)
      have c3 := nofold c2 (rj_in (by omega))
      subst c3
      rw [show i * 1 + 0 = i by omega] at c1
      rw [c1, List.getElem?_map]
      unfold q_li
      rw [List.getElem?_map, List.getElem?_range hi]
      rfl
    · rw [List.getElem?_eq_none (by omega), List.getElem?_eq_none (by simp [q_li]; omega)]
  have hlen : (q_li n (rj 1 B J)).length = n := li_len n _
  have htk : cur.toList.take (q_li n (rj 1 B J)).length = (q_li n (rj 1 B J)).map (Value.int .i64) := by rw [hlen, ← hxs, ← htake, Nat.mul_one]
  have hglt : g < w.heap.size := (Array.getElem?_eq_some_iff.1 hcell).1
  have key := Try.slices_Sort_int g 0 cap (q_li n (rj 1 B J)) w (holds_of_blockI hcell htk) hglt (by rw [hlen]; omega)
  rw [hlen] at key
  refine key.mono ?_
  rintro e w' ⟨rfl, m, os, rfl⟩
  have hgr := grownBy_sortedI (w := w) (g := g) (n := m) (os := os) (q_srt (q_li n (rj 1 B J))).toArray
  have hown := ownsRow_sortedI (w := w) (base := 0) (g := g) (cap := cap) (n := m) (e := 3) (os := os) (ss := q_li n (rj 1 B J)) (ts := q_srt (q_li n (rj 1 B J))) (srt_len _) (Nat.zero_le _) hcell (by rw [hlen]; exact hcap) hmax (by simpa using hsz)
  rw [hlen] at hown
  have hch := chg_ok (β' := β) hI (ch := []) (wr := [0]) (news := [(0, .rows 3 1 n (ri (q_srt (q_li n (rj 1 B J)))))]) ⟨hgr.os, hgr.tape, hgr.output⟩ hgr.size (fun b hb hno => hgr.block b hb (fun e => hno 0 _ _ (by simp) (List.mem_cons_self ..) hb0 (by rw [Option.some.inj e]; rfl))) (fun _ _ => rfl) (fun z u b hz => nomatch hz) (fun z z' u u' b hz => nomatch hz) (fun o l hm => by rw [(Prod.mk.inj (List.mem_singleton.1 hm)).1]; simp) (fun o l l' hm hm' => by rw [(Prod.mk.inj (List.mem_singleton.1 hm)).2, (Prod.mk.inj (List.mem_singleton.1 hm')).2]) (fun o l hm _ => by obtain ⟨rfl, _⟩ := Prod.mk.inj (List.mem_singleton.1 hm); exact ⟨_, List.mem_cons_self ..⟩) (fun hst o l hm => by
    obtain ⟨rfl, rfl⟩ := Prod.mk.inj (List.mem_singleton.1 hm)
    refine ⟨by omega, _, _, hb0, hown, fun i j hi hj => ?_⟩
    obtain rfl : j = 0 := by omega
    have hi' : i < (q_srt (q_li n (rj 1 B J))).length := by rw [srt_len, hlen]; exact hi
    refine ⟨.int .i64 ((q_srt (q_li n (rj 1 B J)))[i]'hi'), by rw [show i * 1 + 0 = i by omega, List.getElem?_map, List.getElem?_eq_getElem hi']; rfl, ?_⟩
    unfold ri
    rw [rj_in (by omega), List.getD_eq_getElem?_getD, List.getElem?_eq_getElem hi']
    exact .int _ _)
  have hH : chgH [] [0] [(0, .rows 3 1 n (ri (q_srt (q_li n (rj 1 B J)))))] [(0, OB.rows 3 1 n (rj 1 B J))] = [(0, .rows 3 1 n (ri (q_srt (q_li n (rj 1 B J)))))] := rfl
  rw [hH] at hch
  exact ⟨.tuple #[], F, β, rfl, ⟨⟨[], rfl, .nil⟩, rfl⟩, hch.1.up (by omega), hch.2.weaken (fun z _ => rfl)⟩
noncomputable def O5 : Orac := addM 23 aSo O4
theorem sO5 : Sound prog gl O5 := so_ok O4 sO4
end Go.Proofs.Ytobfnncpjkeloaa.Sh
