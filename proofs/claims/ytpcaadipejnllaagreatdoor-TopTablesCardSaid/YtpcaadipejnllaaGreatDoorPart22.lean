/- The rows of an index, in its order. -/
import Derived.Test.YtpcaadipejnllaaGreatDoorPart21
import Derived.Test.YtpcaadipejnllaaGreatDoorPart01
import Derived.Maps.OwnOps
import Derived.Maps.Views

set_option linter.unusedVariables false
set_option linter.unusedSimpArgs false
namespace Go.Proofs.YtpcaadipejnllaaGreatDoor
open Go.RowKit

theorem own_lt_of {s o n c N : Nat} (h : s < N) : ∀ k, (Value.slice (some ⟨s, o, none⟩) n c).ownBlock = some k → k < N := fun k hk => by
  have hk : s = k := by simpa [Value.ownBlock] using hk
  omega

set_option maxRecDepth 100000 in
set_option maxHeartbeats 1000000 in
theorem byfn_w (ib cb cc : Nat) (w : World) (hc : w.cell? ⟨ib, 0, none⟩ = some (.int .i64 3)) :
    Calls Tryz.prog 47 #[.agg #[.int .i64 3, .slice (some ⟨cb, 0, none⟩) 1 cc, .bool false], .pointer (some ⟨ib, 0, none⟩)] w fun e w' => e = .returned (.bool true) ∧ Chg [] w w' := by
  have hil := block_lt_of_cell hc
  have hcc : ∀ ob, (w.alloc ob).cell? ⟨ib, 0, none⟩ = some (.int .i64 3) := fun ob => by rw [((Chg.refl [] w).alloc ob).cell hil (by simp)]; exact hc
  go_enter Tryz.func47, Tryz.ntmps47
  go_wp2
  go_ret
  exact ⟨rfl, (Chg.refl _ _).alloc _⟩

set_option maxRecDepth 100000 in
set_option maxHeartbeats 1000000 in
theorem byindex_w (ib cb cc : Nat) (vx : Value) (w : World) (hi : IxS w vx cb cc) (hc : w.cell? ⟨ib, 0, none⟩ = some (.int .i64 3)) :
    Calls Tryz.prog 46 #[vx, .func (.func 47) #[] #[.pointer (some ⟨ib, 0, none⟩)]] w fun e w' => e = .returned (.int .i64 0) ∧ Chg [] w w' := by
  obtain ⟨s, o, c, rfl, hs, _⟩ := hi.at_
  have hr := hi.rng
  go_enter Tryz.func46, Tryz.ntmps46
  go_wp2
  refine wp_loop_rounds 2 ?_
  rw [rounds_succ]
  go_wp2_with (first
    | (refine wpList_load_rng (by rfl) 41 (.tmp 14) rfl s o rfl _ _ hr Tryz.underlying41 rfl (by kernel_rfl) ?_)
    | (go_at_call 47; refine (byfn_w ib cb cc _ hc).mono ?_; rintro e w1 ⟨rfl, hC1⟩))
  go_ret
  exact ⟨rfl, hC1⟩

theorem spanE_w (v : Value) (w : World) (h1 : KS w v [2, 1]) (hG : Gv w) :
    Calls Tryz.prog 43 #[.agg (tbV tE v (.slice none 0 0)), .slice none 0 0] w fun e w' => e = .returned (.tuple #[.string (one 3), .string (one 4), .int .i64 0]) ∧ Chg [] w w' :=
  span_w tE v (.slice none 0 0) w tE_ok (by decide) h1 (.inl ⟨rfl, rfl⟩) hG

set_option maxRecDepth 100000 in
set_option maxHeartbeats 1000000 in
theorem by_w (bb mb base cb cc : Nat) (vk vr vx v : Value) (L : List Pr) (es : List Per) (w : World) (h : BasS w bb mb base tP vk vr vx v L) (hi : IxS w vx cb cc) (hG : Gv w) (hsel : sel 3 L = es.map prE) (hes : ∀ e ∈ es, e.Ok ∧ prP e ∈ L) (hel : es.length ≤ 1000) :
    Calls Tryz.prog 15 #[.pointer (some ⟨bb, 0, none⟩), .int .i64 3, .slice none 0 0] w fun e w' => ∃ v', e = .returned (.tuple #[v', .int .i64 0]) ∧ RowsV w' w.heap.size v' (es.map rP) ∧ Chg [] w w' := by
  obtain ⟨s, o, c, rfl, hs, _⟩ := hi.at_
  have hA0 : Chg [] w (w.alloc (.cells #[.int .i64 3] 3)) := (Chg.refl _ _).alloc _
  have hIb : Blk (w.alloc (.cells #[.int .i64 3] 3)) w.heap.size 3 #[.int .i64 3] := Blk.new _ _ _
  have c3 : ∀ ob, (w.alloc ob).cell? ⟨bb, 3, none⟩ = some (.slice (some ⟨s, o, none⟩) 1 c) := fun ob => (h.b.alloc ob).cell 3
  go_enter Tryz.func15, Tryz.ntmps15
  go_upto_region 7 with (first
    | (go_at_call 34; refine (bnone_w bb mb base tP vk vr _ v L _ (h.ext hA0)).mono ?_; rintro e w9 ⟨rfl, rfl⟩)
    | (go_at_call 46; refine (byindex_w w.heap.size cb cc _ _ (hi.ext hA0) (hIb.cell 0)).mono ?_; clear c3; rintro e w2 ⟨rfl, hC2⟩; have c3 : w2.cell? ⟨bb, 3, none⟩ = some (.slice (some ⟨s, o, none⟩) 1 c) := ((h.ext hA0).ext hC2).b.cell 3; have hr2 := ((hi.ext hA0).ext hC2).rng)
    | (refine wpList_load_rng (by rfl) 41 (.tmp 35) rfl s o rfl _ _ hr2 Tryz.underlying41 rfl (by kernel_rfl) ?_))
  have hCa := hA0.trans hC2
  have hA : Chg [] w2 (w2.alloc (.cells #[.int .i64 3, .slice (some ⟨cb, 0, none⟩) 1 cc, .bool false] 41)) := (Chg.refl _ _).alloc _
  have hXb : Blk (w2.alloc (.cells #[.int .i64 3, .slice (some ⟨cb, 0, none⟩) 1 cc, .bool false] 41)) w2.heap.size 41 #[.int .i64 3, .slice (some ⟨cb, 0, none⟩) 1 cc, .bool false] := Blk.new _ _ _
  obtain ⟨Wd, hWd⟩ : ∃ Wd, Wd = w2.alloc (.cells #[.int .i64 3, .slice (some ⟨cb, 0, none⟩) 1 cc, .bool false] 41) := ⟨_, rfl⟩
  rw [← hWd] at hA hXb ⊢
  clear hWd
  have hBd := (h.ext hCa).ext hA
  have hIx := (hi.ext hCa).ext hA
  have hSr : ∀ W, Chg [] Wd W → (W.rangeAt bb 0 (tbV tP vk vr).toList ∧ W.rangeAt w2.heap.size 0 [Value.int .i64 3, .slice (some ⟨cb, 0, none⟩) 1 cc, .bool false]) := fun W hW => ⟨base_tb (hBd.b.ext hW), rng3 (hXb.ext hW)⟩
  have hD0 : Chg [] Wd Wd.drew := (Chg.refl _ _).drew
  try simp only [Act.put, List.setIfInBounds_toArray, List.set_cons_zero, List.set_cons_succ]
  go_cut [10] (fun s10 wx => ∃ tb v1, s10 = .pointer (some ⟨tb, 0, none⟩) ∧ Blk wx tb 37 (tbV tE v1 (.slice none 0 0)) ∧ KS wx v1 [2, 1] ∧ Chg [] Wd wx)
  case first =>
    refine wp_region_K (S := fun W => W.rangeAt bb 0 (tbV tP vk vr).toList ∧ W.rangeAt w2.heap.size 0 [Value.int .i64 3, .slice (some ⟨cb, 0, none⟩) 1 cc, .bool false]) 7 (by kernel_rfl) (hSr _ hD0) (fun hH => ?_)
    refine wpAnyK_take (i := 0) (v := .pointer (some ⟨bb, 0, none⟩)) rfl (by kernel_rfl) (by kernel_rfl) (by kernel_rfl) (by kernel_rfl) (by decide) (fun _ _ _ h => h) (Or.inl ⟨by rfl, fun w' hw' => by go_simp⟩) hH ?_
    try simp only [List.getElem_toArray, List.getElem_cons_succ, List.getElem_cons_zero, Act.put, List.setIfInBounds_toArray, List.set_cons_zero, List.set_cons_succ]
    refine wpAnyK_take (i := 1) (v := .pointer (some ⟨bb, 0, none⟩)) rfl (by kernel_rfl) (by kernel_rfl) (by kernel_rfl) (by kernel_rfl) (by decide) (fun _ _ _ h => h) (Or.inl ⟨by rfl, fun w' hw' => by go_simp⟩) hH ?_
    try simp only [List.getElem_toArray, List.getElem_cons_succ, List.getElem_cons_zero, Act.put, List.setIfInBounds_toArray, List.set_cons_zero, List.set_cons_succ]
    refine wpAnyK_take (i := 2) (v := .pointer (some ⟨bb, 0, none⟩)) rfl (by kernel_rfl) (by kernel_rfl) (by kernel_rfl) (by kernel_rfl) (by decide) (fun _ _ _ h => h) (Or.inl ⟨by rfl, fun w' hw' => by go_simp⟩) hH ?_
    try simp only [List.getElem_toArray, List.getElem_cons_succ, List.getElem_cons_zero, Act.put, List.setIfInBounds_toArray, List.set_cons_zero, List.set_cons_succ]
    refine wpAnyK_take (i := 3) rfl (by kernel_rfl) (by kernel_rfl) (by kernel_rfl) (by kernel_rfl) (by decide) (fun _ _ _ h => h) (yieldsIf_load_mid (by rfl) _ _ rfl (bb) (0) rfl ((tbV tP vk vr).toList) _ (fun w' hw' => hw'.1) Tryz.underlying37 rfl (by kernel_rfl)) hH ?_
    try simp only [List.getElem_toArray, List.getElem_cons_succ, List.getElem_cons_zero, Act.put, List.setIfInBounds_toArray, List.set_cons_zero, List.set_cons_succ]
    refine wpAnyK_take (i := 4) rfl (by kernel_rfl) (by kernel_rfl) (by kernel_rfl) (by kernel_rfl) (by decide) (fun _ _ _ h => h) (yieldsIf_load_mid (by rfl) _ _ rfl (w2.heap.size) (0) rfl ([Value.int .i64 3, .slice (some ⟨cb, 0, none⟩) 1 cc, .bool false]) _ (fun w' hw' => hw'.2) Tryz.underlying41 rfl (by kernel_rfl)) hH ?_
    try simp only [List.getElem_toArray, List.getElem_cons_succ, List.getElem_cons_zero, Act.put, List.setIfInBounds_toArray, List.set_cons_zero, List.set_cons_succ]
    refine wpAnyK_ready (rs := [5, 6]) (by kernel_rfl) (by simp) ?_
    refine AllReadyK.cons rfl (fun K hK => ?_) (AllReadyK.cons rfl (fun K hK => ?_) AllReadyK.nil)
    · go_simp
      refine (tableof_o vk vr cb cc _ (hBd.ks.ext hD0) (hBd.rs.ext hD0) (hIx.ext hD0).cell).mono ?_
      rintro e W1 ⟨v1, rfl, ho1, hC1⟩
      have hD1 := hD0.trans hC1
      refine hK.out _ _ (hSr _ hD1) (fun hH => ?_)
      clear hK K
      try simp only [List.getElem_toArray, List.getElem_cons_succ, List.getElem_cons_zero, Act.put, List.setIfInBounds_toArray, List.set_cons_zero, List.set_cons_succ]
      refine wpAnyK_ready (rs := [6]) (by kernel_rfl) (by simp) ?_
      refine AllReadyK.cons rfl (fun K hK => ?_) AllReadyK.nil
      go_simp
      refine hK.out _ _ (hSr _ (hD1.alloc _)) (fun hH => ?_)
      clear hK K
      try simp only [List.getElem_toArray, List.getElem_cons_succ, List.getElem_cons_zero, Act.put, List.setIfInBounds_toArray, List.set_cons_zero, List.set_cons_succ]
      refine wpAnyK_ready (rs := [7]) (by kernel_rfl) (by simp) ?_
      refine AllReadyK.last rfl (fun K hK => ?_)
      rw [if_pos (by rfl)]
      refine op_store_blk 37 _ _ rfl (W1.heap.size) (by first | rfl | simp [Act.eval]) (tbV tE v1 (.slice none 0 0)) (by simp [Act.eval]) 37 _ (Blk.new W1 37 _) (by kernel_rfl) rfl (one3 (own_one ho1)) ?_
      intro W3 hC3 hs3 hB3
      refine hK.out _ _ ?_
      clear hK K
      try simp only [List.getElem_toArray, List.getElem_cons_succ, List.getElem_cons_zero, Act.put, List.setIfInBounds_toArray, List.set_cons_zero, List.set_cons_succ]
      refine wpAnyK_done (by kernel_rfl) ?_ _
      go_wp2_with fail
      go_meet
      exact ⟨_, v1, rfl, hB3, KS.own (own_chg (ho1.alloc _) hC3 (fun k hk hm => by have := (ho1.lt k hk).2; simp at hm; omega)) (by decide), (hD1.alloc _).on hC3 (fun i hi => .inr (by simp at hi; have := hD1.size; omega))⟩
    · go_simp
      refine hK.out _ _ (hSr _ (hD0.alloc _)) (fun hH => ?_)
      clear hK K
      try simp only [List.getElem_toArray, List.getElem_cons_succ, List.getElem_cons_zero, Act.put, List.setIfInBounds_toArray, List.set_cons_zero, List.set_cons_succ]
      refine wpAnyK_ready (rs := [5]) (by kernel_rfl) (by simp) ?_
      refine AllReadyK.cons rfl (fun K hK => ?_) AllReadyK.nil
      go_simp
      have hDz := hD0.alloc (.cells #[.int .i64 0, .slice none 0 0, .slice none 0 0] 37)
      refine (tableof_o vk vr cb cc _ (hBd.ks.ext hDz) (hBd.rs.ext hDz) (hIx.ext hDz).cell).mono ?_
      rintro e W1 ⟨v1, rfl, ho1, hC1⟩
      have hD1 := hDz.trans hC1
      have hTz := (Blk.newEq (w := Wd.drew) (g := Wd.heap.size) (t := 37) (cs := #[.int .i64 0, .slice none 0 0, .slice none 0 0]) rfl).ext hC1
      refine hK.out _ _ (hSr _ hD1) (fun hH => ?_)
      clear hK K
      try simp only [List.getElem_toArray, List.getElem_cons_succ, List.getElem_cons_zero, Act.put, List.setIfInBounds_toArray, List.set_cons_zero, List.set_cons_succ]
      refine wpAnyK_ready (rs := [7]) (by kernel_rfl) (by simp) ?_
      refine AllReadyK.last rfl (fun K hK => ?_)
      rw [if_pos (by rfl)]
      refine op_store_blk 37 _ _ rfl (Wd.heap.size) (by first | rfl | simp [Act.eval]) (tbV tE v1 (.slice none 0 0)) (by simp [Act.eval]) 37 _ hTz (by kernel_rfl) rfl (one3 (own_one ho1)) ?_
      intro W3 hC3 hs3 hB3
      refine hK.out _ _ ?_
      clear hK K
      try simp only [List.getElem_toArray, List.getElem_cons_succ, List.getElem_cons_zero, Act.put, List.setIfInBounds_toArray, List.set_cons_zero, List.set_cons_succ]
      refine wpAnyK_done (by kernel_rfl) ?_ _
      go_wp2_with fail
      go_meet
      exact ⟨_, v1, rfl, hB3, KS.own (own_chg ho1 hC3 (fun k hk hm => own_ne ho1 hTz (by decide) hk (by simpa using hm))) (by decide), hD1.on hC3 (fun i hi => .inr (by simp at hi; omega))⟩
  case rest =>
    obtain ⟨tb, v1, rfl, hT, hk1, hCx⟩ := hcut
    obtain ⟨Wf, rfl⟩ : ∃ Wf : World, Wf = wc := ⟨_, rfl⟩
    have hCw : Chg [] w Wf := hCa.trans (hA.trans hCx)
    have hXf := hXb.ext hCx
    have y1 : Wf.cell? ⟨w2.heap.size, 1, none⟩ = some (.slice (some ⟨cb, 0, none⟩) 1 cc) := hXf.cell 1
    have hGf := hG.chg hCw (by simp)
    have hwi := fun w' hm => within_b mb base 3 v L w' hm
    rw [hsel, List.length_map, show one (3 + 1) = one 4 from rfl] at hwi
    have Hwi := Lib.hid hwi
    have Hes := Lib.hid hes
    clear hwi hes hsel c3 hSr
    go_wp2_with (first
      | (refine wpList_load_row rfl 37 (.tmp 10) rfl tb rfl 37 _ (0, 0) _ hT Tryz.underlying37 rfl (by kernel_rfl) ?_)
      | (go_at_call 43; refine (spanE_w v1 _ hk1 hGf).mono ?_; rintro e w3 ⟨rfl, hC3⟩; have c4 : w3.cell? ⟨bb, 4, none⟩ = some (.pointer (some ⟨mb, 0, none⟩)) := ((h.ext hCw).ext hC3).b.cell 4)
      | (go_at_call 48; refine (Hwi.out _ ((h.m.ext hCw).ext hC3)).mono ?_; rintro e w4 ⟨vl, rfl, hol, hC4⟩; obtain ⟨A, c, rfl, hc1, hc2⟩ := (Sl.own hol).form))
    have hC34 := hC3.trans hC4
    have hCw4 := hCw.trans hC34
    go_loopw [14, 67] (fun v i wr => ∃ (k : Nat) (vo : Value), vo = v ∧ k ≤ es.length ∧ i = .int .i64 k ∧ RowsV wr w4.heap.size vo ((es.take k).map rP) ∧ Chg [] w4 wr) (fun _ i _ => es.length - (intOf i).toNat)
    case atStart => exact ⟨0, _, rfl, Nat.zero_le _, rfl, RowsV.nil _ _, Chg.refl _ _⟩
    case round =>
      obtain ⟨k, vo, rfl, hk, rfl, ho, hC⟩ := hrel
      by_cases hlt : k < es.length
      · obtain ⟨q, hq⟩ : ∃ q, es[k]? = some q := ⟨_, List.getElem?_eq_getElem hlt⟩
        obtain ⟨hq1, hq2⟩ := Hes.out q (List.mem_of_getElem? hq)
        obtain ⟨s', o', c', e, hs', hxc⟩ := own_at hol (by omega)
        injection e with e1 e2 e3
        subst e1 e3
        have hr := prs_rng (l := es.map prE) (k := k) (x := prE q) (fun j hj => by rw [hC.cell hs' (by simp)]; exact hxc j (by simpa using hj)) (by rw [List.getElem?_map, hq]; rfl)
        have hts : es.take (k + 1) = es.take k ++ [q] := take_one es k q hq
        have hll : ((es.take k).map rP).length ≤ 2000 := by rw [List.length_map]; have h2 : (es.take k).length ≤ k := List.length_take_le _ _; omega
        obtain ⟨z0, z1, z2⟩ := prP_size hq1
        obtain ⟨q0, q1, q2⟩ := prE_size hq1
        have hCwr := hCw4.trans hC
        have hAr : Chg [] wr (wr.alloc (.cells #[.string (prE q).1, .string (prE q).2] 93)) := (Chg.refl _ _).alloc _
        have hTr := ((hT.ext hC34).ext hC).ext hAr
        have hkr := ((hk1.ext hC34).ext hC).ext hAr
        have hGr := hG.chg (hCwr.trans hAr) (by simp)
        have hrd := (read_row tE v1 (.slice none 0 0) (rE q) (wr.alloc (.cells #[.string (prE q).1, .string (prE q).2] 93)) (rE_ok hq1) hkr (.inl ⟨rfl, rfl⟩) hGr (Nat.le_trans q1 (by decide)) (by show (prE q).2.size ≤ 40; omega)).mono (R' := fun e w' => ∃ v', e = .returned (.tuple #[v', .int .i64 0]) ∧ w'.ownsRow (wr.alloc (.cells #[.string (prE q).1, .string (prE q).2] 93)).heap.size 62 5 v' 2 (cls (rE q)) ∧ Chg [] (wr.alloc (.cells #[.string (prE q).1, .string (prE q).2] 93)) w') (fun e w' hh => hh)
        have Hrd := Lib.hid hrd
        have Hts := Lib.hid hts
        have Hq := Lib.hid hq
        clear hts hq hxc hrd
        go_wp2_with (first
          | (refine wpList_load_rng (by rfl) 93 (.tmp 69) rfl s' (o' + k * 2) rfl _ _ hr Tryz.underlying93 rfl (by kernel_rfl) ?_)
          | (refine wpList_load_row rfl 37 (.tmp 10) rfl tb rfl 37 _ (0, 0) _ hTr Tryz.underlying37 rfl (by kernel_rfl) ?_)
          | (go_at_call 45; refine (Hrd.out).mono ?_; rintro e w5 ⟨u, rfl, hu, hC5⟩; obtain ⟨s2, o2, c2, rfl, hs2, _⟩ := own_at hu (by omega); obtain ⟨A2, c2', e2, hc21, hc22⟩ := (Sl.own hu).form; injection e2 with e4 e5 e3; subst e3; clear e4 e5; have hc23 : 2 ≤ c2 := hc21; have hC5w := hAr.trans hC5; have y2 : w5.cell? ⟨w2.heap.size, 1, none⟩ = some (.slice (some ⟨cb, 0, none⟩) 1 cc) := (((hXf.ext hC34).ext hC).ext hC5w).cell 1; have hS5 : Sl w5 5 (.slice (some ⟨s2, o2 + 5, none⟩) 1 (c2 - 1)) [Cl.u q.id].length (cls [Cl.u q.id]) := (Sl.own hu).drop5 (l := rE q) (k := 1) (by show 1 < 2; omega); clear hc21)
          | (go_at_call 49; go_loud (refine (bgetk_w bb mb base tP vk vr _ v L _ (rP q) [.u q.id] _ ((h.ext hCwr).ext hC5w) (rP_ok hq1) (hG.chg (hCwr.trans hC5w) (by simp)) rfl hS5 (own_lt_of hs2) z0 (Nat.le_trans z1 (by decide)) (by show (prP q).2.size ≤ 40; omega) hq2).mono ?_); rintro e w6 ⟨u6, rfl, hu6, hC6⟩; obtain ⟨A6, c6, rfl, hc61, hc62⟩ := (Sl.own hu6).form; have hC6w := hC5w.trans hC6; have ho6 := ho.ext hC6w; have hbl6 := (hC.trans hC6w).size)
          | (at_builtin; go_loud (refine wpList_append_rw rfl _ _ rfl w4.heap.size vo ((es.take k).map rP) rfl (ho6.ext ((Chg.refl _ _).alloc _)) _ (rP q) (.slice A6 (rP q).length c6) _ rfl (Blk.newEq (by first | rfl | simp)) (hu6.alloc _) hll (by simp; omega) ?_); intro v8 w8 ho8 hC8))
        go_roundw
        case rel =>
          refine ⟨k + 1, v8, rfl, by omega, by go_num, ?_, ((hC.trans hC6w).alloc _).on hC8 (fun i hi => .inr (ho.lt i (by simpa using hi)).1)⟩
          rw [Hts.out, List.map_append]; exact ho8
        case measure => simp [intOf]; omega
      · obtain rfl : k = es.length := by omega
        rw [List.take_of_length_le (Nat.le_refl _)] at ho
        go_wp2
        go_ret2
        exact ⟨vo, rfl, ho.lower hCw4.size, hCw4.trans hC⟩

end Go.Proofs.YtpcaadipejnllaaGreatDoor

/- A map from numbers to bools of the call's own: what is asked of it, what is put. -/
set_option linter.unusedVariables false
set_option linter.unusedSimpArgs false
namespace Go.Proofs.YtpcaadipejnllaaGreatDoor
open Go.RowKit Go.Maps

theorem zero4 (w : World) : (zeroValue 4).run Tryz.prog w = .ok (.bool false) w := by kernel_rfl

theorem plainElem_bool_inv {P : Program} {e : TypeId} (he : P.underlying e = some .bool) {v : Value} {z : DataW Unit × List MemPlace} (h : plainElem P e v = some z) : ∃ x, v = .bool x ∧ z = (.lit (.bool x), []) := by
  unfold plainElem at h
  rw [he] at h
  cases v <;> simp at h
  subst h
  exact ⟨_, rfl, rfl⟩

/-- Block b is a map of at most n entries that answers as f says, for numbers of its kind. -/
def MapB (w : World) (b n : Nat) (f : Int → Option Bool) : Prop :=
  ∃ D : DataW Unit, w.ownsMap Tryz.prog 3 (plainElem Tryz.prog 4) b n D ∧ IsMap D ∧ ∀ k : Int, ∀ z, D.atKey (.int .i64 k) z = match f k with | some x => .lit (.bool x) | none => z

theorem MapB.lt {w : World} {b n : Nat} {f : Int → Option Bool} (h : MapB w b n f) : b < w.heap.size := by
  obtain ⟨D, h1, _⟩ := h
  exact h1.lt
theorem MapB.chg {S : List Nat} {w w' : World} {b n : Nat} {f : Int → Option Bool} (h : MapB w b n f) (hC : Chg S w w') (hn : b ∉ S) : MapB w' b n f := by
  obtain ⟨D, h1, h2⟩ := h
  have hlt := h1.lt
  obtain ⟨es, clock, hb, F, hs, hD⟩ := h1
  exact ⟨D, ⟨es, clock, (hC.block b hlt hn).trans hb, F, hs, hD⟩, h2⟩
theorem MapB.ext {w w' : World} {b n : Nat} {f : Int → Option Bool} (h : MapB w b n f) (hC : Chg [] w w') : MapB w' b n f := h.chg hC (by simp)
theorem MapB.ne {w : World} {b n : Nat} {f : Int → Option Bool} (h : MapB w b n f) {g : Nat} {t : TypeId} {cs : Array Value} (hg : Blk w g t cs) : b ≠ g := by
  obtain ⟨D, ⟨es, clock, hb, _⟩, _⟩ := h
  rintro rfl
  have hg' : w.heap[b]? = _ := hg
  rw [hb] at hg'
  cases hg'
theorem MapB.made (w : World) : MapB (w.alloc (.map #[] 0)) w.heap.size 0 (fun _ => none) :=
  ⟨.map [], World.ownsMap_made _ _ _ _, isMap_empty, fun _ _ => rfl⟩
theorem MapB.mono {w : World} {b n m : Nat} {f : Int → Option Bool} (h : MapB w b n f) (hnm : n ≤ m) : MapB w b m f := by
  obtain ⟨D, h1, h2⟩ := h
  exact ⟨D, h1.mono hnm, h2⟩

def putB (f : Int → Option Bool) (k : Int) (x : Bool) : Int → Option Bool := fun j => if j = k then some x else f j

set_option maxRecDepth 100000 in
theorem MapB.put {w : World} {b n : Nat} {f : Int → Option Bool} (h : MapB w b n f) (hn : n ≤ 100000) (k : Int) (y : Bool) (hk : (Lit.int .i64 k).wf = true) :
    ∃ w', (Instr.mapUpdate 136 (.map (some b)) (.int .i64 k) (.bool y)).run Tryz.prog w = .ok () w' ∧ MapB w' b (n + 1) (putB f k y) ∧ Chg [b] w w' := by
  obtain ⟨D, h1, h2, h3⟩ := h
  have hlt : n < maxLen := by unfold maxLen; omega
  obtain ⟨w', hr, h4, h5⟩ := h1.update (int_keyed Tryz.underlying3) Tryz.underlying136 hlt (keyOf_int_mk Tryz.underlying3 hk) (plainElem_bool Tryz.underlying4 y)
  refine ⟨w', hr, ⟨_, h4, h2.put _ _, fun j z => ?_⟩, ⟨h5.os, h5.tape, h5.output, h5.size, fun i hi hn => h5.block i hi (by simpa using hn)⟩⟩
  unfold putB
  by_cases e : j = k
  · subst e
    rw [if_pos rfl, atKey_put_same h2 ((int_keyed Tryz.underlying3).key (keyOf_int_mk Tryz.underlying3 hk))]
  · rw [if_neg e, atKey_put_other (by intro e2; injection e2; contradiction), h3]
section
variable {ops : Array Oper} {rest : List Oper} {o : Oper} {a : Act} {w : World} {Q : Exit → Act → World → Prop}
/-- m[k] = x. -/
theorem wpList_mapUpdate_b (hg : o.guard = none) (m x v : Operand) (hop : o.op = .mapUpdate 136 m x v) (b n : Nat) (f : Int → Option Bool) (hm : a.eval m = .map (some b)) (h : MapB w b n f) (hn : n ≤ 100000) (k : Int) (y : Bool) (hx : a.eval x = .int .i64 k) (hv : a.eval v = .bool y) (hk : (Lit.int .i64 k).wf = true)
    (hK : ∀ w', MapB w' b (n + 1) (putB f k y) → Chg [b] w w' → wpList Tryz.prog ops Q rest (a.put o.dst undef) w') : wpList Tryz.prog ops Q (o :: rest) a w := by
  obtain ⟨D, h1, h2, h3⟩ := h
  refine wpList_mapUpdate_own w hg m x v 136 hop 3 4 (int_keyed Tryz.underlying3) Tryz.underlying136 (plainElem Tryz.prog 4) b n D hm h1 (by unfold maxLen; omega) _ _ (.int .i64 k) hx hv (keyOf_int_mk Tryz.underlying3 hk) (.lit (.bool y)) [] (plainElem_bool Tryz.underlying4 y) ?_
  intro w' h4 h5
  refine hK w' ⟨_, h4, h2.put _ _, fun j z => ?_⟩ ⟨h5.os, h5.tape, h5.output, h5.size, fun i hi hn => h5.block i hi (by simpa using hn)⟩
  unfold putB
  by_cases e : j = k
  · subst e
    rw [if_pos rfl, atKey_put_same h2 ((int_keyed Tryz.underlying3).key (keyOf_int_mk Tryz.underlying3 hk))]
  · rw [if_neg e, atKey_put_other (by intro e2; injection e2; contradiction), h3]
theorem wpList_insert_b (hg : o.guard = none) (m x v : Operand) (hop : o.op = .insert 136 m x v) (b n : Nat) (f : Int → Option Bool) (hm : a.eval m = .map (some b)) (h : MapB w b n f) (hn : n ≤ 100000) (k : Int) (y : Bool) (hx : a.eval x = .int .i64 k) (hv : a.eval v = .bool y) (hk : (Lit.int .i64 k).wf = true)
    (hK : ∀ w', MapB w' b (n + 1) (putB f k y) → Chg [b] w w' → wpList Tryz.prog ops Q rest (a.put o.dst undef) w') : wpList Tryz.prog ops Q (o :: rest) a w := by
  refine wpList_plain hg fun K' hK' => ?_
  obtain ⟨w', hrun, r1, r2⟩ := h.put hn k y hk
  unfold Oper.wp
  simp [execOp, hop, hm, hx, hv, hrun, Result.andThen]
  exact hK' _ _ (hK w' r1 r2)
theorem MapB.find {b n : Nat} {f : Int → Option Bool} (h : MapB w b n f) (c : Bool) (k : Int) (hk : (Lit.int .i64 k).wf = true) :
    (Instr.lookup 136 (.map (some b)) (.int .i64 k) c).run Tryz.prog w = .ok (if c then .tuple #[.bool ((f k).getD false), .bool (f k).isSome] else .bool ((f k).getD false)) w := by
  obtain ⟨D, ⟨es, clock, hb, F, hs, rfl⟩, h2, h3⟩ := h
  rcases Maps.fit_look c (int_keyed Tryz.underlying3) Tryz.underlying136 (zero4 w) hb F (keyOf_int_mk Tryz.underlying3 hk) with ⟨hrun, _, hat⟩ | ⟨e0, y, _, _, hrun, hRv, hat, _⟩
  · have e : f k = none := by
      have a1 := h3 k (.lit (.bool true))
      have a2 := h3 k (.lit (.bool false))
      rw [hat] at a1 a2
      cases hf : f k with
      | none => rfl
      | some x => rw [hf] at a1 a2; cases x <;> simp at a1 a2
    rw [hrun, e]
    rfl
  · obtain ⟨x, e1, rfl⟩ := plainElem_bool_inv Tryz.underlying4 hRv
    have a1 := h3 k .nil
    rw [hat] at a1
    have e : f k = some x := by
      cases hf : f k with
      | none => rw [hf] at a1; simp at a1
      | some y => rw [hf] at a1; simp at a1; rw [a1]
    rw [hrun, e, e1]
    rfl
theorem wpList_lookup_b (hw : Region.wanted o (yielded ops a.tmps) = true) (m x : Operand) (c : Bool) (hop : o.op = .lookup 136 m x c) (b n : Nat) (f : Int → Option Bool) (hm : a.eval m = .map (some b)) (h : MapB w b n f) (k : Int) (hx : a.eval x = .int .i64 k) (hk : (Lit.int .i64 k).wf = true) (v : Value)
    (hv : (if c then Value.tuple #[.bool ((f k).getD false), .bool (f k).isSome] else .bool ((f k).getD false)) = v) (hK : wpList Tryz.prog ops Q rest (a.put o.dst v) w) : wpList Tryz.prog ops Q (o :: rest) a w := by
  refine wpList_step fun K' hK' => ?_
  rw [if_pos hw]
  have hr := h.find c k hk
  rw [hv] at hr
  unfold Oper.wp
  simp [execOp, hop, hm, hx, hr, Result.andThen]
  exact hK' _ _ hK
end

end Go.Proofs.YtpcaadipejnllaaGreatDoor

/- Bases are made. -/
set_option linter.unusedVariables false
set_option linter.unusedSimpArgs false
namespace Go.Proofs.YtpcaadipejnllaaGreatDoor
open Go.RowKit

theorem ModV.zero {w : World} {mb : Nat} (h : Blk w mb 135 #[.slice none 0 0]) : ModV w mb 0 (.slice none 0 0) [] := ⟨Nat.zero_le _, h, World.ownsRow_nil _ _ _ _, Srt.nil, Nat.zero_le _⟩
set_option maxRecDepth 100000 in
set_option maxHeartbeats 1000000 in
theorem clonek_o (v : Value) (ks : List Int) (w : World) (hK : KS w v ks) (hl : ks.length ≤ 100) (h0 : 0 < ks.length) :
    Calls Tryz.prog 68 #[v] w fun e w' => ∃ v', e = .returned v' ∧ w'.ownsRow w.heap.size 59 1 v' ks.length (ints ks) ∧ Chg [] w w' := by
  have qN := fun (w : World) a n c n' c' => Lib.run_eql_slice_nil (P := Tryz.prog) w 35 59 a n c n' c' Tryz.underlying35
  rcases hK with ⟨rfl, rfl⟩ | ⟨h0, b, o, c, rfl, h1, h2, h3, h4⟩
  · simp at h0
  · have hK : KS w (.slice (some ⟨b, o, none⟩) ks.length c) ks := .inr ⟨h0, b, o, c, rfl, h1, h2, h3, h4⟩
    clear h4
    go_enter Tryz.func68, Tryz.ntmps68
    go_wp2_with (first
      | (at_builtin; refine wpList_append_ks rfl _ _ rfl w.heap.size (.slice (some ⟨w.heap.size, 0, none⟩) 0 0) _ [] ks rfl ?c0 rfl (hK.alloc _) (by simp) (by omega) (by simp) ?_; rotate_left; intro v' w' hown hC))
    case c0 => exact World.ownsRow_made w #[] 0 (Nat.le_refl _) (by unfold maxLen; omega) (by simp)
    go_ret
    rw [List.nil_append] at hown
    exact ⟨_, rfl, hown, ((Chg.refl [] w).alloc _).on hC (fun i hi => .inr (by simp [Value.ownBlock] at hi; omega))⟩

set_option maxRecDepth 100000 in
set_option maxHeartbeats 1000000 in
theorem made_t (vk vr : Value) (w : World) (hK1 : KS w vk tT.k) (hK2 : KS w vr tT.r) :
    Calls Tryz.prog 27 #[.agg (tbV tT vk vr), .slice none 0 0] w fun e w' => ∃ bb mb v1 v2, e = .returned (.tuple #[.pointer (some ⟨bb, 0, none⟩), .int .i64 0]) ∧ w.heap.size ≤ bb ∧ BasS w' bb mb 0 tT v1 v2 (.slice none 0 0) (.slice none 0 0) [] ∧ Chg [] w w' := by
  have hmm := @run_makeMap Tryz.prog
  obtain ⟨B0, hB0⟩ : ∃ B, B = w.heap.size := ⟨_, rfl⟩
  have hBa : Blk (w.alloc (.cells (tbV tT vk vr) 37)) w.heap.size 37 (tbV tT vk vr) := Blk.new _ _ _
  have hCa : Chg [] w (w.alloc (.cells (tbV tT vk vr) 37)) := (Chg.refl _ _).alloc _
  go_enter Tryz.func27, Tryz.ntmps27
  go_upto_region 3 with (first
    | (refine wpList_load_row rfl 37 (.tmp 2) rfl w.heap.size rfl 37 _ (0, 0) _ hBa Tryz.underlying37 rfl (by kernel_rfl) ?_)
    | (go_at_call 28; refine (valid_t tT _ _ _ tT_ok (hK1.ext hCa) (hK2.ext hCa)).mono ?_; rintro e Wa ⟨rfl, hC1⟩))
  have hCw := hCa.trans hC1
  rw [← hB0]
  rw [← hB0] at hBa
  have hK1 := hK1.ext hCw
  have hK2 := hK2.ext hCw
  have hwa := hCw.size
  clear hB0
  have hSr : ∀ W, Chg [] Wa W → W.rangeAt B0 0 (tbV tT vk vr).toList := fun W hW => rng3 ((hBa.ext hC1).ext hW)
  obtain ⟨A1, c1, rfl, hc1, hm1⟩ := hK1.form
  obtain ⟨A2, c2, rfl, hc2, hm2⟩ := hK2.form
  obtain ⟨vk, hvk⟩ : ∃ v, v = Value.slice A1 tT.k.length c1 := ⟨_, rfl⟩
  obtain ⟨vr, hvr⟩ : ∃ v, v = Value.slice A2 tT.r.length c2 := ⟨_, rfl⟩
  rw [← hvk, ← hvr] at hSr ⊢
  rw [← hvk] at hK1
  rw [← hvr] at hK2
  clear hvk hvr
  try simp only [Act.put, List.setIfInBounds_toArray, List.set_cons_zero, List.set_cons_succ]
  go_cut [6] (fun s6 wx => ∃ bb mb v1 v2, s6 = .pointer (some ⟨bb, 0, none⟩) ∧ Wa.heap.size ≤ bb ∧ BasS wx bb mb 0 tT v1 v2 (.slice none 0 0) (.slice none 0 0) [] ∧ Chg [] Wa wx)
  case first =>
    have hC : Chg [] Wa Wa.drew := (Chg.refl _ _).drew
    have hD := hC
    refine wp_region_K (S := fun W => W.rangeAt B0 0 (tbV tT vk vr).toList) 99 (by kernel_rfl) (hSr _ hD) (fun hH => ?_)
    refine wpAnyK_take (i := 0) (v := .pointer (some ⟨B0, 0, none⟩)) rfl (by kernel_rfl) (by kernel_rfl) (by kernel_rfl) (by kernel_rfl) (by decide) (fun _ _ _ h => h) (Or.inl ⟨by rfl, fun w' hw' => by go_simp⟩) hH ?_
    try simp only [List.getElem_toArray, List.getElem_cons_succ, List.getElem_cons_zero, Act.put, List.setIfInBounds_toArray, List.set_cons_zero, List.set_cons_succ]
    refine wpAnyK_take (i := 1) (v := .int .i64 tT.n) rfl (by kernel_rfl) (by kernel_rfl) (by kernel_rfl) (by kernel_rfl) (by decide) (fun _ _ _ h => h) (yieldsIf_load_cell (by rfl) 3 _ rfl (B0) (0) rfl _ (fun w' hw' => by have := hw' 0 _ rfl; rwa [Nat.zero_add] at this) (fun w => Tryz.isAgg3 w)) hH ?_
    try simp only [List.getElem_toArray, List.getElem_cons_succ, List.getElem_cons_zero, Act.put, List.setIfInBounds_toArray, List.set_cons_zero, List.set_cons_succ]
    refine wpAnyK_take (i := 2) (v := .pointer (some ⟨B0, 1, none⟩)) rfl (by kernel_rfl) (by kernel_rfl) (by kernel_rfl) (by kernel_rfl) (by decide) (fun _ _ _ h => h) (Or.inl ⟨by rfl, fun w' hw' => by go_simp⟩) hH ?_
    try simp only [List.getElem_toArray, List.getElem_cons_succ, List.getElem_cons_zero, Act.put, List.setIfInBounds_toArray, List.set_cons_zero, List.set_cons_succ]
    refine wpAnyK_take (i := 3) (v := vk) rfl (by kernel_rfl) (by kernel_rfl) (by kernel_rfl) (by kernel_rfl) (by decide) (fun _ _ _ h => h) (yieldsIf_load_cell (by rfl) 35 _ rfl (B0) (1) rfl _ (fun w' hw' => by have := hw' 1 _ rfl; rwa [Nat.zero_add] at this) (fun w => Tryz.isAgg35 w)) hH ?_
    try simp only [List.getElem_toArray, List.getElem_cons_succ, List.getElem_cons_zero, Act.put, List.setIfInBounds_toArray, List.set_cons_zero, List.set_cons_succ]
    refine wpAnyK_take (i := 5) (v := .pointer (some ⟨B0, 2, none⟩)) rfl (by kernel_rfl) (by kernel_rfl) (by kernel_rfl) (by kernel_rfl) (by decide) (fun _ _ _ h => h) (Or.inl ⟨by rfl, fun w' hw' => by go_simp⟩) hH ?_
    try simp only [List.getElem_toArray, List.getElem_cons_succ, List.getElem_cons_zero, Act.put, List.setIfInBounds_toArray, List.set_cons_zero, List.set_cons_succ]
    refine wpAnyK_take (i := 6) (v := vr) rfl (by kernel_rfl) (by kernel_rfl) (by kernel_rfl) (by kernel_rfl) (by decide) (fun _ _ _ h => h) (yieldsIf_load_cell (by rfl) 35 _ rfl (B0) (2) rfl _ (fun w' hw' => by have := hw' 2 _ rfl; rwa [Nat.zero_add] at this) (fun w => Tryz.isAgg35 w)) hH ?_
    try simp only [List.getElem_toArray, List.getElem_cons_succ, List.getElem_cons_zero, Act.put, List.setIfInBounds_toArray, List.set_cons_zero, List.set_cons_succ]
    refine wpAnyK_take (i := 9) (v := .agg #[.slice none 0 0]) rfl (by kernel_rfl) (by kernel_rfl) (by kernel_rfl) (by kernel_rfl) (by decide) (fun _ _ _ h => h) (Or.inl ⟨by rfl, fun w' hw' => by go_simp⟩) hH ?_
    try simp only [List.getElem_toArray, List.getElem_cons_succ, List.getElem_cons_zero, Act.put, List.setIfInBounds_toArray, List.set_cons_zero, List.set_cons_succ]
    refine wpAnyK_ready (rs := [4, 10]) (by kernel_rfl) (by simp) ?_
    refine AllReadyK.cons rfl (fun K hK => ?_) (AllReadyK.cons rfl (fun K hK => ?_) AllReadyK.nil)
    · go_simp
      refine (clonek_o vk tT.k _ (hK1.ext hC) (by decide) (by decide)).mono ?_
      rintro e W1 ⟨v1, rfl, ho1, hC4⟩
      have hC := hC.trans hC4
      obtain ⟨X1, y1, rfl, _, _⟩ := (Sl.own ho1).form
      refine hK.out _ _ (hSr _ hC) (fun hH => ?_)
      clear hK K
      try simp only [List.getElem_toArray, List.getElem_cons_succ, List.getElem_cons_zero, Act.put, List.setIfInBounds_toArray, List.set_cons_zero, List.set_cons_succ]
      refine wpAnyK_ready (rs := [7, 10]) (by kernel_rfl) (by simp) ?_
      refine AllReadyK.cons rfl (fun K hK => ?_) (AllReadyK.cons rfl (fun K hK => ?_) AllReadyK.nil)
      · go_simp
        refine (clonek_o vr tT.r _ (hK2.ext hC) (by decide) (by decide)).mono ?_
        rintro e W2 ⟨v2, rfl, ho2, hC7⟩
        have hC := hC.trans hC7
        have ho1 := own_ext ho1 hC7
        obtain ⟨X2, y2, rfl, _, _⟩ := (Sl.own ho2).form
        refine hK.out _ _ (hSr _ hC) (fun hH => ?_)
        clear hK K
        try simp only [List.getElem_toArray, List.getElem_cons_succ, List.getElem_cons_zero, Act.put, List.setIfInBounds_toArray, List.set_cons_zero, List.set_cons_succ]
        refine wpAnyK_take (i := 8) (v := .agg #[.int .i64 tT.n, .slice X1 tT.k.length y1, .slice X2 tT.r.length y2]) rfl (by kernel_rfl) (by kernel_rfl) (by kernel_rfl) (by kernel_rfl) (by decide) (fun _ _ _ h => h) (Or.inl ⟨by rfl, fun w' hw' => by go_simp⟩) hH ?_
        try simp only [List.getElem_toArray, List.getElem_cons_succ, List.getElem_cons_zero, Act.put, List.setIfInBounds_toArray, List.set_cons_zero, List.set_cons_succ]
        refine wpAnyK_ready (rs := [10]) (by kernel_rfl) (by simp) ?_
        refine AllReadyK.cons rfl (fun K hK => ?_) AllReadyK.nil
        go_simp
        have hMb : Blk (W2.alloc (.cells #[.slice none 0 0] 135)) W2.heap.size 135 #[.slice none 0 0] := Blk.new _ _ _
        have hC := hC.alloc (.cells #[.slice none 0 0] 135)
        have ho1 := ho1.alloc (.cells #[.slice none 0 0] 135)
        have ho2 := ho2.alloc (.cells #[.slice none 0 0] 135)
        refine hK.out _ _ (hSr _ hC) (fun hH => ?_)
        clear hK K
        try simp only [List.getElem_toArray, List.getElem_cons_succ, List.getElem_cons_zero, Act.put, List.setIfInBounds_toArray, List.set_cons_zero, List.set_cons_succ]
        refine wpAnyK_take (i := 11) (v := .agg #[.int .i64 tT.n, .slice X1 tT.k.length y1, .slice X2 tT.r.length y2, .slice none 0 0, .pointer (some ⟨W2.heap.size, 0, none⟩)]) rfl (by kernel_rfl) (by kernel_rfl) (by kernel_rfl) (by kernel_rfl) (by decide) (fun _ _ _ h => h) (Or.inl ⟨by rfl, fun w' hw' => by go_simp⟩) hH ?_
        try simp only [List.getElem_toArray, List.getElem_cons_succ, List.getElem_cons_zero, Act.put, List.setIfInBounds_toArray, List.set_cons_zero, List.set_cons_succ]
        refine wpAnyK_ready (rs := [12]) (by kernel_rfl) (by simp) ?_
        refine AllReadyK.cons rfl (fun K hK => ?_) AllReadyK.nil
        go_simp
        have hCs := hC.size
        have hC := hC.alloc (.cells #[.int .i64 tT.n, .slice X1 tT.k.length y1, .slice X2 tT.r.length y2, .slice none 0 0, .pointer (some ⟨W2.heap.size, 0, none⟩)] 91)
        have hBb : Blk ((W2.alloc (.cells #[.slice none 0 0] 135)).alloc (.cells #[.int .i64 tT.n, .slice X1 tT.k.length y1, .slice X2 tT.r.length y2, .slice none 0 0, .pointer (some ⟨W2.heap.size, 0, none⟩)] 91)) (W2.heap.size + 1) 91 (baseC tT (.slice X1 tT.k.length y1) (.slice X2 tT.r.length y2) (.slice none 0 0) (W2.heap.size)) := Blk.newEq (by first | rfl | simp)
        have ho1 := ho1.alloc (.cells #[.int .i64 tT.n, .slice X1 tT.k.length y1, .slice X2 tT.r.length y2, .slice none 0 0, .pointer (some ⟨W2.heap.size, 0, none⟩)] 91)
        have ho2 := ho2.alloc (.cells #[.int .i64 tT.n, .slice X1 tT.k.length y1, .slice X2 tT.r.length y2, .slice none 0 0, .pointer (some ⟨W2.heap.size, 0, none⟩)] 91)
        have hMb := hMb.alloc (.cells #[.int .i64 tT.n, .slice X1 tT.k.length y1, .slice X2 tT.r.length y2, .slice none 0 0, .pointer (some ⟨W2.heap.size, 0, none⟩)] 91)
        refine hK.out _ _ (hSr _ hC) (fun hH => ?_)
        clear hK K
        try simp only [List.getElem_toArray, List.getElem_cons_succ, List.getElem_cons_zero, Act.put, List.setIfInBounds_toArray, List.set_cons_zero, List.set_cons_succ]
        refine wpAnyK_take (i := 13) (v := .pointer (some ⟨W2.heap.size + 1, 0, none⟩)) rfl (by kernel_rfl) (by kernel_rfl) (by kernel_rfl) (by kernel_rfl) (by decide) (fun _ _ _ h => h) (Or.inl ⟨by rfl, fun w' hw' => by go_simp⟩) hH ?_
        try simp only [List.getElem_toArray, List.getElem_cons_succ, List.getElem_cons_zero, Act.put, List.setIfInBounds_toArray, List.set_cons_zero, List.set_cons_succ]
        refine wpAnyK_done (by kernel_rfl) ?_ _
        go_wp2_with fail
        go_meet
        exact ⟨_, _, (.slice X1 tT.k.length y1), (.slice X2 tT.r.length y2), rfl, by first | omega | (simp at hCs ⊢; omega), ⟨hBb, ⟨_, ho1⟩, ⟨_, ho2⟩, ModV.zero hMb, tT_ok, by decide⟩, hC⟩
      · go_simp
        have hMb : Blk (W1.alloc (.cells #[.slice none 0 0] 135)) W1.heap.size 135 #[.slice none 0 0] := Blk.new _ _ _
        have hC := hC.alloc (.cells #[.slice none 0 0] 135)
        have ho1 := ho1.alloc (.cells #[.slice none 0 0] 135)
        refine hK.out _ _ (hSr _ hC) (fun hH => ?_)
        clear hK K
        try simp only [List.getElem_toArray, List.getElem_cons_succ, List.getElem_cons_zero, Act.put, List.setIfInBounds_toArray, List.set_cons_zero, List.set_cons_succ]
        refine wpAnyK_ready (rs := [7]) (by kernel_rfl) (by simp) ?_
        refine AllReadyK.cons rfl (fun K hK => ?_) AllReadyK.nil
        go_simp
        refine (clonek_o vr tT.r _ (hK2.ext hC) (by decide) (by decide)).mono ?_
        rintro e W3 ⟨v2, rfl, ho2, hC7⟩
        have hC := hC.trans hC7
        have ho1 := own_ext ho1 hC7
        obtain ⟨X2, y2, rfl, _, _⟩ := (Sl.own ho2).form
        have hMb := hMb.ext hC7
        refine hK.out _ _ (hSr _ hC) (fun hH => ?_)
        clear hK K
        try simp only [List.getElem_toArray, List.getElem_cons_succ, List.getElem_cons_zero, Act.put, List.setIfInBounds_toArray, List.set_cons_zero, List.set_cons_succ]
        refine wpAnyK_take (i := 8) (v := .agg #[.int .i64 tT.n, .slice X1 tT.k.length y1, .slice X2 tT.r.length y2]) rfl (by kernel_rfl) (by kernel_rfl) (by kernel_rfl) (by kernel_rfl) (by decide) (fun _ _ _ h => h) (Or.inl ⟨by rfl, fun w' hw' => by go_simp⟩) hH ?_
        try simp only [List.getElem_toArray, List.getElem_cons_succ, List.getElem_cons_zero, Act.put, List.setIfInBounds_toArray, List.set_cons_zero, List.set_cons_succ]
        refine wpAnyK_take (i := 11) (v := .agg #[.int .i64 tT.n, .slice X1 tT.k.length y1, .slice X2 tT.r.length y2, .slice none 0 0, .pointer (some ⟨W1.heap.size, 0, none⟩)]) rfl (by kernel_rfl) (by kernel_rfl) (by kernel_rfl) (by kernel_rfl) (by decide) (fun _ _ _ h => h) (Or.inl ⟨by rfl, fun w' hw' => by go_simp⟩) hH ?_
        try simp only [List.getElem_toArray, List.getElem_cons_succ, List.getElem_cons_zero, Act.put, List.setIfInBounds_toArray, List.set_cons_zero, List.set_cons_succ]
        refine wpAnyK_ready (rs := [12]) (by kernel_rfl) (by simp) ?_
        refine AllReadyK.cons rfl (fun K hK => ?_) AllReadyK.nil
        go_simp
        have hCs := hC.size
        have hC := hC.alloc (.cells #[.int .i64 tT.n, .slice X1 tT.k.length y1, .slice X2 tT.r.length y2, .slice none 0 0, .pointer (some ⟨W1.heap.size, 0, none⟩)] 91)
        have hBb : Blk ((W3).alloc (.cells #[.int .i64 tT.n, .slice X1 tT.k.length y1, .slice X2 tT.r.length y2, .slice none 0 0, .pointer (some ⟨W1.heap.size, 0, none⟩)] 91)) (W3.heap.size) 91 (baseC tT (.slice X1 tT.k.length y1) (.slice X2 tT.r.length y2) (.slice none 0 0) (W1.heap.size)) := Blk.newEq (by first | rfl | simp)
        have ho1 := ho1.alloc (.cells #[.int .i64 tT.n, .slice X1 tT.k.length y1, .slice X2 tT.r.length y2, .slice none 0 0, .pointer (some ⟨W1.heap.size, 0, none⟩)] 91)
        have ho2 := ho2.alloc (.cells #[.int .i64 tT.n, .slice X1 tT.k.length y1, .slice X2 tT.r.length y2, .slice none 0 0, .pointer (some ⟨W1.heap.size, 0, none⟩)] 91)
        have hMb := hMb.alloc (.cells #[.int .i64 tT.n, .slice X1 tT.k.length y1, .slice X2 tT.r.length y2, .slice none 0 0, .pointer (some ⟨W1.heap.size, 0, none⟩)] 91)
        refine hK.out _ _ (hSr _ hC) (fun hH => ?_)
        clear hK K
        try simp only [List.getElem_toArray, List.getElem_cons_succ, List.getElem_cons_zero, Act.put, List.setIfInBounds_toArray, List.set_cons_zero, List.set_cons_succ]
        refine wpAnyK_take (i := 13) (v := .pointer (some ⟨W3.heap.size, 0, none⟩)) rfl (by kernel_rfl) (by kernel_rfl) (by kernel_rfl) (by kernel_rfl) (by decide) (fun _ _ _ h => h) (Or.inl ⟨by rfl, fun w' hw' => by go_simp⟩) hH ?_
        try simp only [List.getElem_toArray, List.getElem_cons_succ, List.getElem_cons_zero, Act.put, List.setIfInBounds_toArray, List.set_cons_zero, List.set_cons_succ]
        refine wpAnyK_done (by kernel_rfl) ?_ _
        go_wp2_with fail
        go_meet
        exact ⟨_, _, (.slice X1 tT.k.length y1), (.slice X2 tT.r.length y2), rfl, by first | omega | (simp at hCs ⊢; omega), ⟨hBb, ⟨_, ho1⟩, ⟨_, ho2⟩, ModV.zero hMb, tT_ok, by decide⟩, hC⟩
    · go_simp
      have hC : Chg [] Wa ((Wa.alloc (.cells #[.slice none 0 0] 135)).drew) := ((Chg.refl [] Wa).alloc _).drew
      have hMb : Blk ((Wa.alloc (.cells #[.slice none 0 0] 135)).drew) Wa.heap.size 135 #[.slice none 0 0] := (Blk.new Wa 135 _).drew
      refine hK.out _ _ (hSr _ hC) (fun hH => ?_)
      clear hK K
      try simp only [List.getElem_toArray, List.getElem_cons_succ, List.getElem_cons_zero, Act.put, List.setIfInBounds_toArray, List.set_cons_zero, List.set_cons_succ]
      refine wpAnyK_ready (rs := [4]) (by kernel_rfl) (by simp) ?_
      refine AllReadyK.cons rfl (fun K hK => ?_) AllReadyK.nil
      go_simp
      refine (clonek_o vk tT.k _ (hK1.ext hC) (by decide) (by decide)).mono ?_
      rintro e W2 ⟨v1, rfl, ho1, hC4⟩
      have hC := hC.trans hC4
      obtain ⟨X1, y1, rfl, _, _⟩ := (Sl.own ho1).form
      have hMb := hMb.ext hC4
      refine hK.out _ _ (hSr _ hC) (fun hH => ?_)
      clear hK K
      try simp only [List.getElem_toArray, List.getElem_cons_succ, List.getElem_cons_zero, Act.put, List.setIfInBounds_toArray, List.set_cons_zero, List.set_cons_succ]
      refine wpAnyK_ready (rs := [7]) (by kernel_rfl) (by simp) ?_
      refine AllReadyK.cons rfl (fun K hK => ?_) AllReadyK.nil
      go_simp
      refine (clonek_o vr tT.r _ (hK2.ext hC) (by decide) (by decide)).mono ?_
      rintro e W3 ⟨v2, rfl, ho2, hC7⟩
      have hC := hC.trans hC7
      have ho1 := own_ext ho1 hC7
      obtain ⟨X2, y2, rfl, _, _⟩ := (Sl.own ho2).form
      have hMb := hMb.ext hC7
      refine hK.out _ _ (hSr _ hC) (fun hH => ?_)
      clear hK K
      try simp only [List.getElem_toArray, List.getElem_cons_succ, List.getElem_cons_zero, Act.put, List.setIfInBounds_toArray, List.set_cons_zero, List.set_cons_succ]
      refine wpAnyK_take (i := 8) (v := .agg #[.int .i64 tT.n, .slice X1 tT.k.length y1, .slice X2 tT.r.length y2]) rfl (by kernel_rfl) (by kernel_rfl) (by kernel_rfl) (by kernel_rfl) (by decide) (fun _ _ _ h => h) (Or.inl ⟨by rfl, fun w' hw' => by go_simp⟩) hH ?_
      try simp only [List.getElem_toArray, List.getElem_cons_succ, List.getElem_cons_zero, Act.put, List.setIfInBounds_toArray, List.set_cons_zero, List.set_cons_succ]
      refine wpAnyK_take (i := 11) (v := .agg #[.int .i64 tT.n, .slice X1 tT.k.length y1, .slice X2 tT.r.length y2, .slice none 0 0, .pointer (some ⟨Wa.heap.size, 0, none⟩)]) rfl (by kernel_rfl) (by kernel_rfl) (by kernel_rfl) (by kernel_rfl) (by decide) (fun _ _ _ h => h) (Or.inl ⟨by rfl, fun w' hw' => by go_simp⟩) hH ?_
      try simp only [List.getElem_toArray, List.getElem_cons_succ, List.getElem_cons_zero, Act.put, List.setIfInBounds_toArray, List.set_cons_zero, List.set_cons_succ]
      refine wpAnyK_ready (rs := [12]) (by kernel_rfl) (by simp) ?_
      refine AllReadyK.cons rfl (fun K hK => ?_) AllReadyK.nil
      go_simp
      have hCs := hC.size
      have hC := hC.alloc (.cells #[.int .i64 tT.n, .slice X1 tT.k.length y1, .slice X2 tT.r.length y2, .slice none 0 0, .pointer (some ⟨Wa.heap.size, 0, none⟩)] 91)
      have hBb : Blk ((W3).alloc (.cells #[.int .i64 tT.n, .slice X1 tT.k.length y1, .slice X2 tT.r.length y2, .slice none 0 0, .pointer (some ⟨Wa.heap.size, 0, none⟩)] 91)) (W3.heap.size) 91 (baseC tT (.slice X1 tT.k.length y1) (.slice X2 tT.r.length y2) (.slice none 0 0) (Wa.heap.size)) := Blk.newEq (by first | rfl | simp)
      have ho1 := ho1.alloc (.cells #[.int .i64 tT.n, .slice X1 tT.k.length y1, .slice X2 tT.r.length y2, .slice none 0 0, .pointer (some ⟨Wa.heap.size, 0, none⟩)] 91)
      have ho2 := ho2.alloc (.cells #[.int .i64 tT.n, .slice X1 tT.k.length y1, .slice X2 tT.r.length y2, .slice none 0 0, .pointer (some ⟨Wa.heap.size, 0, none⟩)] 91)
      have hMb := hMb.alloc (.cells #[.int .i64 tT.n, .slice X1 tT.k.length y1, .slice X2 tT.r.length y2, .slice none 0 0, .pointer (some ⟨Wa.heap.size, 0, none⟩)] 91)
      refine hK.out _ _ (hSr _ hC) (fun hH => ?_)
      clear hK K
      try simp only [List.getElem_toArray, List.getElem_cons_succ, List.getElem_cons_zero, Act.put, List.setIfInBounds_toArray, List.set_cons_zero, List.set_cons_succ]
      refine wpAnyK_take (i := 13) (v := .pointer (some ⟨W3.heap.size, 0, none⟩)) rfl (by kernel_rfl) (by kernel_rfl) (by kernel_rfl) (by kernel_rfl) (by decide) (fun _ _ _ h => h) (Or.inl ⟨by rfl, fun w' hw' => by go_simp⟩) hH ?_
      try simp only [List.getElem_toArray, List.getElem_cons_succ, List.getElem_cons_zero, Act.put, List.setIfInBounds_toArray, List.set_cons_zero, List.set_cons_succ]
      refine wpAnyK_done (by kernel_rfl) ?_ _
      go_wp2_with fail
      go_meet
      exact ⟨_, _, (.slice X1 tT.k.length y1), (.slice X2 tT.r.length y2), rfl, by first | omega | (simp at hCs ⊢; omega), ⟨hBb, ⟨_, ho1⟩, ⟨_, ho2⟩, ModV.zero hMb, tT_ok, by decide⟩, hC⟩
  case rest =>
    obtain ⟨bb, mb, v1, v2, rfl, hbb, hBS, hCx⟩ := hcut
    obtain ⟨Wb, rfl⟩ : ∃ Wb : World, Wb = wc := ⟨_, rfl⟩
    have n0 : ∀ ob, (Wb.alloc ob).cell? ⟨B0, 0, none⟩ = some (.int .i64 2) := fun ob => (((hBa.ext hC1).ext hCx).alloc ob).cell 0
    have hbb2 : w.heap.size ≤ bb := Nat.le_trans hwa hbb
    have hCwb := hCw.trans hCx
    clear hSr
    go_wp2_with (first
      | (refine wpList_insert_b rfl (.tmp 34) (.tmp 36) (.const (.bool true)) rfl Wb.heap.size 0 _ rfl (MapB.made Wb) (by omega) 2 true rfl rfl (by decide) ?_; intro W4 hM4 hC4))
    refine wp_loop_rounds 1 ?_
    rw [rounds_succ]
    go_wp2
    go_ret2
    have hC5 : Chg [] Wb W4 := ((Chg.refl [] Wb).alloc (.map #[] 0)).on hC4 (fun i hi => .inr (by simp at hi; omega))
    exact ⟨bb, mb, v1, v2, rfl, hbb2, hBS.ext hC5, hCwb.trans hC5⟩

end Go.Proofs.YtpcaadipejnllaaGreatDoor
