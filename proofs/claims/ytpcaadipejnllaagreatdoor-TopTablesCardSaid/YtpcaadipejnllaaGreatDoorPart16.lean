/- A tree that is changed: leaves below a root. -/
import Derived.Test.YtpcaadipejnllaaGreatDoorPart15
import Derived.Deep.DeepCutAuto
import Derived.Test.YtpcaadipejnllaaGreatDoorPart13

set_option linter.unusedVariables false
set_option linter.unusedSimpArgs false
set_option linter.unnecessarySimpa false
namespace Go.Proofs.YtpcaadipejnllaaGreatDoor
open Go.RowKit

set_option maxRecDepth 100000 in
set_option maxHeartbeats 4000000 in
theorem change_many (tb ba bm bw fr rt many : Nat) (pgs : Nat → List Nat) (ls : List Lf) (kv : Pr) (fl : List Nat) (kb vb : Nat) (w : World) (hT : Blk w tb 78 #[.pointer (some ⟨ba, 0, none⟩), .int .i64 many]) (hA : ArS w ba bm bw fr rt pgs) (hM : Mid fr pgs ls [rt] fl)
    (hn : 2 ≤ ls.length) (hn8 : ls.length ≤ 8) (hP : IsPage (pgs rt) (rootG ls)) (hlo : ∀ x ∈ ls, 36 ≤ load x.l)
    (hk : w.cell? ⟨kb, 0, none⟩ = some (.string kv.1)) (hv : w.cell? ⟨vb, 0, none⟩ = some (.string kv.2)) (hkv : OkP kv) (hk0 : 0 < kv.1.size) (hmany : many = (flat ls).length) (hxl : (flat ls).length ≤ 1000) (h300 : load (ins kv (flat ls)) ≤ 300) :
    Calls Tryz.prog 80 #[.pointer (some ⟨tb, 0, none⟩), .string kv.1, .func (.func 81) #[] #[.pointer (some ⟨kb, 0, none⟩), .pointer (some ⟨vb, 0, none⟩)]] w fun e w' => e = .returned (.int .i64 0) ∧ TreeS w' tb (ins kv (flat ls)) ∧ Chg [tb] w w' := by
  have hkl := block_lt_of_cell hk
  have hvl := block_lt_of_cell hv
  obtain ⟨hex1, hex2, hrt1, hrt2⟩ := hM.exn
  have t0 := hT.cell 0
  have t1 := hT.cell 1
  go_enter Tryz.func80, Tryz.ntmps80
  go_wp2_with (first
    | (go_at_call 56; go_loud (refine (arena_copy ba bm bw fr rt pgs _ hA).mono ?_; rintro e w1 ⟨ba', bm', bw', rfl, hb1, hb2, hb3, hA1, hC1⟩)))
  have hs1 := hC1.size
  have hlt1 := hA1.lt
  have hWA : WA (w1.alloc (.cells #[.pointer (some ⟨ba', 0, none⟩), .int .i64 0] 193)) w1.heap.size ba' bm' bw' fr rt pgs := ⟨Blk.new w1 193 _, hA1.ext ((Chg.refl _ _).alloc _), by omega, by omega, by omega⟩
  obtain ⟨W2, hW2⟩ : ∃ W2, W2 = w1.alloc (.cells #[.pointer (some ⟨ba', 0, none⟩), .int .i64 0] 193) := ⟨_, rfl⟩
  have hs2 : W2.heap.size = w1.heap.size + 1 := by rw [hW2]; simp
  have hC2 : Chg [] w W2 := by rw [hW2]; exact hC1.alloc _
  rw [← hW2] at hWA ⊢
  clear hW2
  obtain ⟨x0, r0, hls0, hlow0⟩ := hM.low0
  have hm0 : ∃ x, (rootG ls).l[0]? = some x ∧ cmpS x.1 kv.1 ≤ 0 := ⟨(x0.low, numS x0.p), by rw [hls0]; rfl, by rw [hlow0]; exact cmp_empty_le _⟩
  have hrng : ∀ y ∈ ls, 1 ≤ y.p ∧ y.p ≤ 40 := fun y hy => hM.rng hy
  refine (descend_two ba' bm' bw' fr rt pgs kv.1 (rootG ls) W2 hWA.ar hrt1 hrt2 hP (by show (1 : Nat) ≠ 0; omega) hm0 (fun i q x hx hq hq2 => by
    obtain ⟨A, z, B, hABz, _, hzp, _⟩ := seps_leaf hrng hx hq hq2
    have hz := hrng z (by rw [hABz]; simp)
    rw [hzp] at hz
    have hz2 := hM
    rw [hABz] at hz2
    have := (Mid.fence (x := z) hz2).1.is
    rw [hzp] at this
    exact ⟨hz.1, hz.2, _, this, rfl⟩)).mono ?_
  rintro e W3 ⟨i, q, xr, vw, rfl, hxr, hxq, hq2, hD, hway, hC3⟩
  obtain ⟨A, z, B, hABz, hAi, hzp, hxz⟩ := seps_leaf hrng hxr hxq hq2
  subst hABz
  subst hAi
  subst hzp
  have hzlo : cmpS z.low kv.1 ≤ 0 := by rw [← hxz]; exact hD.lo xr hxr
  have hzhi : ∀ b B', B = b :: B' → cmpS kv.1 b.low < 0 := fun b B' hB => by
    subst hB
    have := hD.hi (b.low, numS b.p) (by have := seps_get (A ++ [z]) B' b; simpa [rootG] using this)
    exact this
  obtain ⟨hN, heq, hsrt⟩ := hM.put hkv hk0 hzlo hzhi
  obtain ⟨hzf, hzF⟩ := Mid.fence (x := z) hM
  have hPz : IsPage (pgs z.p) (pgL z (hiL ⟨#[]⟩ B) (nxL 0 B)) := hzf.is
  have hzr := hrng z (by simp)
  obtain ⟨hzK, hzS, hz108⟩ := hM.allok (x := z) (by simp)
  have hins := ins_load kv z.l
  have hcst := costP_le hkv
  have hll := load_len z.l
  have hln := ins_len kv z.l
  have hlP := hPz.head.len
  have hlR := hP.head.len
  have hszP : (nums (pgs z.p)).size = 128 := by rw [nums_size]; exact hlP
  have hszR : (nums (pgs rt)).size = 128 := by rw [nums_size]; exact hlR
  obtain ⟨G, hG, hGl⟩ : ∃ G : PG, G = pgL z (hiL ⟨#[]⟩ B) (nxL 0 B) ∧ G.l = z.l := ⟨_, rfl, rfl⟩
  rw [← hG] at hPz
  have HG := Lib.hid hG
  have HGl := Lib.hid hGl
  clear hG hGl
  obtain ⟨sw, ow, cw, rfl, hsw, hxw⟩ := own_at hway (by omega)
  obtain ⟨curw, rfl, hBw, hbw, hcw1, hcw2, hcw3, hcw4⟩ := own_blk hway
  have hcw5 : cw ≤ 9223372036854775807 := by unfold maxLen at hcw2; omega
  have hlr : (stepC rt A.length (pgs rt)).length = 130 := stepC_len _ _ _ hlR
  have hst0 : ∀ W, Chg [] W3 W → ∀ j v, (stepC rt A.length (pgs rt))[j]? = some v → W.cell? ⟨sw, 0 + j, none⟩ = some v := fun W hW j v hv => by
    have hj := (List.getElem?_eq_some_iff.1 hv).1
    rw [hlr] at hj
    rw [hW.cell hsw (by simp), hxw j (by omega), List.getElem?_append_left (by omega)]
    exact hv
  have hst1 : ∀ W, Chg [] W3 W → ∀ j v, (stepC z.p 0 (pgs z.p))[j]? = some v → W.cell? ⟨sw, 130 + j, none⟩ = some v := fun W hW j v hv => by
    have hj := (List.getElem?_eq_some_iff.1 hv).1
    rw [stepC_len _ _ _ hlP] at hj
    have := hxw (130 + j) (by omega)
    rw [Nat.zero_add] at this
    rw [hW.cell hsw (by simp), this, List.getElem?_append_right (by omega), hlr, Nat.add_sub_cancel_left]
    exact hv
  have Hst0 := Lib.hid hst0
  have Hst1 := Lib.hid hst1
  have hi72 : (Tryz.prog.info? 72).map (·.size) = some (nums (pgs z.p)).toList.length := by rw [Array.length_toList, hszP]; kernel_rfl
  have hi72r : (Tryz.prog.info? 72).map (·.size) = some (nums (pgs rt)).toList.length := by rw [Array.length_toList, hszR]; kernel_rfl
  obtain ⟨hi1, hi2, hi3⟩ := stepC_info z.p 0 (pgs z.p) hlP
  have hal := stepC_all z.p 0 (pgs z.p)
  clear hst0 hst1 hxw hBw hm0
  go_wp2_with (first
    | (refine wpList_load_mid rfl 197 (.tmp 32) rfl sw 130 rfl (stepC z.p 0 (pgs z.p)) (Hst1.out _ (Chg.refl _ _)) _ Tryz.underlying197 rfl hi2 ?_)
    | (refine wpList_store_blk rfl 197 (.tmp 9) (.tmp 33) rfl W3.heap.size rfl (stepC z.p 0 (pgs z.p)).toArray rfl 197 _ (Blk.new W3 197 _) hi1 hi3 hal ?_; intro W4 hC4 hs4 hB4; have hC34 : Chg [] W3 W4 := ((Chg.refl _ W3).alloc _).on hC4 (fun i hi => .inr (by simp at hi; omega)); have hC24 := hC3.trans hC34; obtain ⟨s0, s1, s2⟩ := step_cells (w := W4) (b := W3.heap.size) (k := 0) (n := z.p) (at_ := 0) (pg := pgs z.p) (fun j v hv => by rw [Nat.zero_add, hB4.cell]; simpa using hv); clear s1)
    | (refine wpList_load_mid rfl 72 (.tmp 36) rfl W3.heap.size 2 rfl (nums (pgs z.p)).toList s2 _ Tryz.underlying72 rfl hi72 ?_)
    | (go_at_call 115; (try rw [Array.toArray_toList]); go_loud (refine (partof_w z.p (pgs z.p) _ _ hPz).mono ?_; rintro e W5 ⟨v2, rfl, hown5, hC5⟩; have hC25 := hC24.trans hC5; rw [HGl.out] at hown5; obtain ⟨A2, c2, rfl, _, _⟩ := (Sl.own hown5).form))
    | (refine wpList_store_blk rfl 199 (.tmp 10) (.tmp 38) rfl W5.heap.size rfl (partA z.p G (.slice A2 z.l.length c2)) rfl 199 _ (Blk.new W5 199 _) (by kernel_rfl) rfl (partA_one rfl) ?_; intro W6 hC6 hs6 hB6; obtain ⟨_, _, _, _, _, q5⟩ := partA_cells hB6; have hC46 : Chg [] W2 W6 := (hC25.alloc _).on hC6 (fun i hi => .inr (by simp at hi; have := hC25.size; omega)); have hown6 : W6.ownsRow W2.heap.size 93 2 (.slice A2 z.l.length c2) z.l.length (prs z.l) := own_chg (own_ext (own_base hown5 hC24.size) ((Chg.refl _ _).alloc _)) hC6 (fun k hk => by have := (hown5.lt k hk).2; simp; omega))
    | (go_at_call 81; go_loud (refine (set1_w W2.heap.size z.l kv _ kb vb _ hown6 hC46.size hzS (by omega) (by rw [(hC2.trans hC46).cell hkl (by simp)]; exact hk) (by rw [(hC2.trans hC46).cell hvl (by simp)]; exact hv)).mono ?_; rintro e W7 ⟨v3, rfl, hown7, hC7⟩; obtain ⟨A3, c3, rfl, _, _⟩ := (Sl.own hown7).form; have hB7 := hB6.chg hC7 (by intro h; have h := Option.mem_toList.1 h; have := (hown5.lt _ h).2; omega)))
    | (refine wpList_store_one rfl 94 (.tmp 46) (.tmp 45) rfl W5.heap.size 5 rfl (.slice A3 (ins kv z.l).length c3) rfl 199 _ hB7 (by simp [partA]) (by kernel_rfl) rfl ?_; intro W8 hC8 hs8 hB8))
  have hC35 := hC34.trans hC5
  have hC36 : Chg [] W3 W6 := (hC35.alloc _).on hC6 (fun i hi => .inr (by simp at hi; have := hC35.size; omega))
  have hC37 : Chg [] W3 W7 := hC36.on hC7 (fun i hi => .inr (by have h := Option.mem_toList.1 hi; have := (hown5.lt _ h).1; have := hC34.size; omega))
  have hs35 := hC35.size
  have hC38 : Chg [] W3 W8 := hC37.on hC8 (fun i hi => .inr (by simp at hi; omega))
  have hC28 : Chg [] W2 W8 := hC3.trans hC38
  have hCw := hC2.trans hC28
  have hG' := HG.out
  obtain ⟨PX, hPX⟩ : ∃ PX, PX = partA z.p ⟨0, z.low, hiL ⟨#[]⟩ B, nxL 0 B, ins kv z.l⟩ (.slice A3 (ins kv z.l).length c3) := ⟨_, rfl⟩
  have hB9 : Blk W8 W5.heap.size 199 PX := by
    have : (partA z.p G (.slice A2 z.l.length c2)).setIfInBounds 5 (.slice A3 (ins kv z.l).length c3) = PX := by rw [hPX, hG']; rfl
    rw [← this]; exact hB8
  have hown8 := own_chg hown7 hC8 (fun k hk => by
    have h1 := own_ne hown7 hB7 (by decide) hk
    simpa using h1)
  have hW8 := hWA.chg hC28 (by simp)
  have hT8 := hT.ext hCw
  have y5 : W8.cell? ⟨W5.heap.size, 5, none⟩ = some (.slice A3 (ins kv z.l).length c3) := by rw [hB9.cell, hPX]; rfl
  have hs23 := hC3.size
  clear hB8 hB7 hB6 hB4 q5 s0 s2 hG' hC8 hs8 hC7 hown7 hC46 hown6 hC6 hs6 hown5 hC5 hs4 hC4 hC37 hC36 hC35
  have u0 := hT8.cell 0
  have u1 := hT8.cell 1
  subst hmany
  have hfl1 : (flat (A ++ ([z] ++ B))).length = (flat A).length + (z.l.length + (flat B).length) := by rw [flat_app, flat_app]; simp [flat]
  have hfl2 : (ins kv (flat (A ++ ([z] ++ B)))).length = (flat A).length + ((ins kv z.l).length + (flat B).length) := by rw [heq]; simp
  have hw1 : IntKind.i64.wrap (((flat (A ++ ([z] ++ B))).length : Int) + ((ins kv z.l).length : Int)) = ((flat (A ++ ([z] ++ B))).length : Int) + ((ins kv z.l).length : Int) := by rw [IntKind.wrap_i64]; omega
  have hw2 : IntKind.i64.wrap (((flat (A ++ ([z] ++ B))).length : Int) + ((ins kv z.l).length : Int) - (z.l.length : Int)) = ((ins kv (flat (A ++ ([z] ++ B)))).length : Int) := by rw [IntKind.wrap_i64]; omega
  obtain ⟨FL, hFL⟩ : ∃ FL, FL = flat (A ++ ([z] ++ B)) := ⟨_, rfl⟩
  rw [← hFL] at hw1 hw2 hfl1 hfl2 heq u1 hT8 hxl h300
  have HFL := Lib.hid hFL
  have Heq := Lib.hid heq
  have Hf1 := Lib.hid hfl1
  have Hf2 := Lib.hid hfl2
  clear hFL heq hfl1 hfl2
  go_quiet (fail)
  clear hw1 hw2 y5 u0 u1
  go_wp2_with fail
  refine wp_loop_rounds 2 ?_
  rw [rounds_succ]
  obtain ⟨W9, hW9e⟩ : ∃ W9, W9 = W8.drewN nq := ⟨_, rfl⟩
  rw [← hW9e]
  obtain ⟨wb, hwb⟩ : ∃ wb, wb = w1.heap.size := ⟨_, rfl⟩
  obtain ⟨D, hD⟩ : ∃ D, D = W5.heap.size := ⟨_, rfl⟩
  have hWA9 : WA W9 w1.heap.size ba' bm' bw' fr rt pgs := by rw [hW9e]; exact hW8.chg ((Chg.refl [] W8).drewN nq) (by simp)
  have hT9 : Blk W9 tb 78 #[.pointer (some ⟨ba, 0, none⟩), .int .i64 FL.length] := by rw [hW9e]; exact hT8
  have hB10 : Blk W9 W5.heap.size 199 PX := by rw [hW9e]; exact hB9
  have hown9 : W9.ownsRow W2.heap.size 93 2 (.slice A3 (ins kv z.l).length c3) (ins kv z.l).length (prs (ins kv z.l)) := by rw [hW9e]; exact own_ext hown8 ((Chg.refl [] W8).drewN nq)
  have hC9 : Chg [] w W9 := by rw [hW9e]; exact hCw.drewN nq
  have hC39 : Chg [] W3 W9 := by rw [hW9e]; exact hC38.drewN nq
  have hDlt := hB10.lt
  rw [← hwb] at hWA9 hs2 ⊢
  rw [← hD] at hB10 hDlt ⊢
  have hwbD : wb < D := by omega
  have hlt1' : ba' < wb ∧ bm' < wb ∧ bw' < wb := by omega
  have hsw1 : wb < sw := by omega
  have hsw3 : sw < W3.heap.size := hsw
  have hDs : W3.heap.size ≤ D := by omega
  have hs39 := hC39.size
  have htb := hT.lt
  have htbw : tb < wb := by omega
  clear hW9e hW8 hT8 hown8 hB9 hwb hD hCw hC38 hC28 hWA hs35
  have hu72 := Tryz.underlying72
  have hu199 := Tryz.underlying199
  obtain ⟨k0, k1, k2⟩ := step_cells (w := W9) (b := sw) (k := 0) (n := rt) (at_ := A.length) (pg := pgs rt) (Hst0.out W9 hC39)
  rw [Nat.zero_add] at k1 k2
  have hS11 : ∀ W, Chg [] W9 W → W.cell? ⟨sw, 0, none⟩ = some (.int .i64 rt) ∧ W.rangeAt sw 2 (nums (pgs rt)).toList ∧ Chg [] W9 W := fun W hW =>
    ⟨by rw [hW.cell (by omega) (by simp)]; exact k0, fun j v hv => by rw [hW.cell (by omega) (by simp)]; exact k2 j v hv, hW⟩
  have K0 := Lib.hid k0
  have K1 := Lib.hid k1
  clear k0 k1 k2
  go_wp2_with fail
  try simp only [Act.put, List.setIfInBounds_toArray, List.set_cons_zero, List.set_cons_succ]
  go_cut [14] (fun s14 wx => ∃ E v4, s14 = .pointer (some ⟨E, 0, none⟩) ∧ W9.heap.size ≤ E ∧ Blk wx E 199 (partA rt (rootG (A ++ ([z] ++ B))) v4) ∧ wx.ownsRow W9.heap.size 93 2 v4 (A ++ ([z] ++ B)).length (prs (seps (A ++ ([z] ++ B)))) ∧ Chg [] W9 wx)
  case first =>
    refine wp_region_held_drew (S := fun W => W.cell? ⟨sw, 0, none⟩ = some (.int .i64 rt) ∧ W.rangeAt sw 2 (nums (pgs rt)).toList ∧ Chg [] W9 W) (by kernel_rfl) (hS11 _ ((Chg.refl _ W9).drew)) (fun hH => ?_)
    refine wpAnyH_take (i := 0) (v := .slice (some ⟨sw, 0, none⟩) 2 cw) rfl (by kernel_rfl) (by kernel_rfl) (by kernel_rfl) (fun _ _ _ h => h) (Or.inl ⟨by rfl, fun w' hw' => by go_simp⟩) hH ?_
    try simp only [List.getElem_toArray, List.getElem_cons_succ, List.getElem_cons_zero, Act.put, List.setIfInBounds_toArray, List.set_cons_zero, List.set_cons_succ]
    refine wpAnyH_take (i := 1) (v := .int .i64 0) rfl (by kernel_rfl) (by kernel_rfl) (by kernel_rfl) (fun _ _ _ h => h) (Or.inl ⟨by rfl, fun w' hw' => by go_simp⟩) hH ?_
    try simp only [List.getElem_toArray, List.getElem_cons_succ, List.getElem_cons_zero, Act.put, List.setIfInBounds_toArray, List.set_cons_zero, List.set_cons_succ]
    refine wpAnyH_take (i := 2) (v := .pointer (some ⟨sw, 0, none⟩)) rfl (by kernel_rfl) (by kernel_rfl) (by kernel_rfl) (fun _ _ _ h => h) (Or.inl ⟨by rfl, fun w' hw' => by go_simp⟩) hH ?_
    try simp only [List.getElem_toArray, List.getElem_cons_succ, List.getElem_cons_zero, Act.put, List.setIfInBounds_toArray, List.set_cons_zero, List.set_cons_succ]
    refine wpAnyH_take (i := 3) (v := .pointer (some ⟨sw, 0, none⟩)) rfl (by kernel_rfl) (by kernel_rfl) (by kernel_rfl) (fun _ _ _ h => h) (Or.inl ⟨by rfl, fun w' hw' => by go_simp⟩) hH ?_
    try simp only [List.getElem_toArray, List.getElem_cons_succ, List.getElem_cons_zero, Act.put, List.setIfInBounds_toArray, List.set_cons_zero, List.set_cons_succ]
    refine wpAnyH_take (i := 4) (v := .int .i64 rt) rfl (by kernel_rfl) (by kernel_rfl) (by kernel_rfl) (fun _ _ _ h => h) (yieldsIf_load_cell (by rfl) 3 _ rfl (sw) (0) rfl _ (fun w' hw' => hw'.1) (fun w => Tryz.isAgg3 w)) hH ?_
    try simp only [List.getElem_toArray, List.getElem_cons_succ, List.getElem_cons_zero, Act.put, List.setIfInBounds_toArray, List.set_cons_zero, List.set_cons_succ]
    refine wpAnyH_take (i := 5) (v := .slice (some ⟨sw, 0, none⟩) 2 cw) rfl (by kernel_rfl) (by kernel_rfl) (by kernel_rfl) (fun _ _ _ h => h) (Or.inl ⟨by rfl, fun w' hw' => by go_simp⟩) hH ?_
    try simp only [List.getElem_toArray, List.getElem_cons_succ, List.getElem_cons_zero, Act.put, List.setIfInBounds_toArray, List.set_cons_zero, List.set_cons_succ]
    refine wpAnyH_take (i := 6) (v := .int .i64 0) rfl (by kernel_rfl) (by kernel_rfl) (by kernel_rfl) (fun _ _ _ h => h) (Or.inl ⟨by rfl, fun w' hw' => by go_simp⟩) hH ?_
    try simp only [List.getElem_toArray, List.getElem_cons_succ, List.getElem_cons_zero, Act.put, List.setIfInBounds_toArray, List.set_cons_zero, List.set_cons_succ]
    refine wpAnyH_take (i := 7) (v := .pointer (some ⟨sw, 0, none⟩)) rfl (by kernel_rfl) (by kernel_rfl) (by kernel_rfl) (fun _ _ _ h => h) (Or.inl ⟨by rfl, fun w' hw' => by go_simp⟩) hH ?_
    try simp only [List.getElem_toArray, List.getElem_cons_succ, List.getElem_cons_zero, Act.put, List.setIfInBounds_toArray, List.set_cons_zero, List.set_cons_succ]
    refine wpAnyH_take (i := 8) (v := .pointer (some ⟨sw, 2, none⟩)) rfl (by kernel_rfl) (by kernel_rfl) (by kernel_rfl) (fun _ _ _ h => h) (Or.inl ⟨by rfl, fun w' hw' => by go_simp⟩) hH ?_
    try simp only [List.getElem_toArray, List.getElem_cons_succ, List.getElem_cons_zero, Act.put, List.setIfInBounds_toArray, List.set_cons_zero, List.set_cons_succ]
    refine wpAnyH_take (i := 9) rfl (by kernel_rfl) (by kernel_rfl) (by kernel_rfl) (fun _ _ _ h => h) (yieldsIf_load_mid (by rfl) _ _ rfl (sw) (2) rfl (nums (pgs rt)).toList _ (fun w' hw' => hw'.2.1) hu72 rfl hi72r) hH ?_
    try simp only [List.getElem_toArray, List.getElem_cons_succ, List.getElem_cons_zero, Act.put, List.setIfInBounds_toArray, List.set_cons_zero, List.set_cons_succ]
    have hC := (Chg.refl [] W9).drew
    refine wpAnyH_ready (rs := [10, 11]) (by kernel_rfl) (by simp) ?_
    refine AllReadyH.cons rfl (fun K hK => ?_) (AllReadyH.cons rfl (fun K hK => ?_) AllReadyH.nil)
    · go_simp
      refine (partof_w rt (pgs rt) (rootG (A ++ ([z] ++ B))) _ hP).mono ?_
      rintro e W10 ⟨v4, rfl, hown4, hC10⟩
      have hown := own_base (b' := W9.heap.size) hown4 hC.size
      have hC := hC.trans hC10
      refine hK.out _ _ (hS11 _ hC) (fun hH => ?_)
      clear hK K
      try simp only [List.getElem_toArray, List.getElem_cons_succ, List.getElem_cons_zero, Act.put, List.setIfInBounds_toArray, List.set_cons_zero, List.set_cons_succ]
      refine wpAnyH_ready (rs := [11]) (by kernel_rfl) (by simp) ?_
      refine AllReadyH.cons rfl (fun K hK => ?_) AllReadyH.nil
      go_simp
      have hgeE := hC.size
      have hE := Blk.new W10 199 zp
      have hown := hown.alloc (.cells zp 199)
      have hC := hC.alloc (.cells zp 199)
      refine hK.out _ _ (hS11 _ hC) (fun hH => ?_)
      clear hK K
      try simp only [List.getElem_toArray, List.getElem_cons_succ, List.getElem_cons_zero, Act.put, List.setIfInBounds_toArray, List.set_cons_zero, List.set_cons_succ]
      refine wpAnyH_ready (rs := [12]) (by kernel_rfl) (by simp) ?_
      refine AllReadyH.cons rfl (fun K hK => ?_) AllReadyH.nil
      rw [if_pos (by rfl)]
      refine op_store_blk 199 _ _ rfl (W10.heap.size) (by first | rfl | simp [Act.eval]) (partA rt (rootG (A ++ ([z] ++ B))) v4) (by simp [Act.eval]) 199 _ hE (by kernel_rfl) rfl (partA_one (own_one hown)) ?_
      intro W11 hC11 hs11 hB11
      have hown := own_chg hown hC11 (fun k hk => by have := own_ne hown hE (by decide) hk; simpa using this)
      have hC := hC.on hC11 (fun i hi => .inr (by simp only [List.mem_singleton] at hi; rw [hi]; exact hgeE))
      refine hK.out _ _ (hS11 _ hC) (fun hH => ?_)
      clear hK K
      try simp only [List.getElem_toArray, List.getElem_cons_succ, List.getElem_cons_zero, Act.put, List.setIfInBounds_toArray, List.set_cons_zero, List.set_cons_succ]
      refine wpAnyH_done (by kernel_rfl) ?_ _
      go_wp2_with fail
      go_meet
      exact ⟨W10.heap.size, v4, by simp, hgeE, hB11, (seps_len (A ++ ([z] ++ B))) ▸ hown, hC⟩
    · go_simp
      have hgeE := hC.size
      have hE := Blk.new W9.drew 199 zp
      have hC := hC.alloc (.cells zp 199)
      refine hK.out _ _ (hS11 _ hC) (fun hH => ?_)
      clear hK K
      try simp only [List.getElem_toArray, List.getElem_cons_succ, List.getElem_cons_zero, Act.put, List.setIfInBounds_toArray, List.set_cons_zero, List.set_cons_succ]
      refine wpAnyH_ready (rs := [10]) (by kernel_rfl) (by simp) ?_
      refine AllReadyH.cons rfl (fun K hK => ?_) AllReadyH.nil
      go_simp
      refine (partof_w rt (pgs rt) (rootG (A ++ ([z] ++ B))) _ hP).mono ?_
      rintro e W10 ⟨v4, rfl, hown4, hC10⟩
      have hE := hE.ext hC10
      have hown := own_base (b' := W9.heap.size) hown4 hC.size
      have hC := hC.trans hC10
      refine hK.out _ _ (hS11 _ hC) (fun hH => ?_)
      clear hK K
      try simp only [List.getElem_toArray, List.getElem_cons_succ, List.getElem_cons_zero, Act.put, List.setIfInBounds_toArray, List.set_cons_zero, List.set_cons_succ]
      refine wpAnyH_ready (rs := [12]) (by kernel_rfl) (by simp) ?_
      refine AllReadyH.cons rfl (fun K hK => ?_) AllReadyH.nil
      rw [if_pos (by rfl)]
      refine op_store_blk 199 _ _ rfl (W9.drew.heap.size) (by first | rfl | simp [Act.eval]) (partA rt (rootG (A ++ ([z] ++ B))) v4) (by simp [Act.eval]) 199 _ hE (by kernel_rfl) rfl (partA_one (own_one hown)) ?_
      intro W11 hC11 hs11 hB11
      have hown := own_chg hown hC11 (fun k hk => by have := own_ne hown hE (by decide) hk; simpa using this)
      have hC := hC.on hC11 (fun i hi => .inr (by simp only [List.mem_singleton] at hi; rw [hi]; exact hgeE))
      refine hK.out _ _ (hS11 _ hC) (fun hH => ?_)
      clear hK K
      try simp only [List.getElem_toArray, List.getElem_cons_succ, List.getElem_cons_zero, Act.put, List.setIfInBounds_toArray, List.set_cons_zero, List.set_cons_succ]
      refine wpAnyH_done (by kernel_rfl) ?_ _
      go_wp2_with fail
      go_meet
      exact ⟨W9.drew.heap.size, v4, by simp, hgeE, hB11, (seps_len (A ++ ([z] ++ B))) ▸ hown, hC⟩
  case rest =>
  obtain ⟨E, v4, rfl, hgeE, hE, hown10, hC10⟩ := hcut
  obtain ⟨W10, hW10e⟩ : ∃ W10, W10 = wc := ⟨_, rfl⟩
  rw [← hW10e] at hE hown10 hC10 ⊢
  clear hW10e hS11
  have hWA10 := hWA9.chg hC10 (by simp)
  have hD10 := hB10.ext hC10
  have hs10 := hC10.size
  have hE5 : W10.cell? ⟨E, 5, none⟩ = some v4 := (partA_cells hE).2.2.2.2.2
  have hk1 : W10.cell? ⟨sw, 1, none⟩ = some (.int .i64 A.length) := by rw [hC10.cell (by omega) (by simp)]; exact K1.out
  have hEl := hE.lt
  have hv4ge : ∀ k, v4.ownBlock = some k → W9.heap.size ≤ k ∧ k ≠ E := fun k hk => ⟨(hown10.lt k hk).1, own_ne hown10 hE (by decide) hk⟩
  have hzl1 : 0 < z.l.length := by
    rcases Nat.eq_zero_or_pos z.l.length with h | h
    · have := hlo z (by simp)
      rw [List.eq_nil_of_length_eq_zero h] at this
      simp [load] at this
    · exact h
  have hown10d := own_ext hown9 (hC10.drew)
  have hap10 := (hWA10.chg ((Chg.refl [] W10).drew) (by simp)).apart hown10d
  have hfix : Calls Tryz.prog 116 #[.pointer (some ⟨wb, 0, none⟩), .agg PX, v4, .int .i64 A.length] W10.drew (Fixed W10.drew wb ba' bm' bw' rt W9.heap.size pgs v4 (flat A ++ (ins kv z.l ++ flat B))) := by
    rw [hPX]
    exact fix_mid wb ba' bm' bw' fr rt W9.heap.size pgs A B z (ins kv z.l) fl _ v4 W10.drew (hWA10.chg ((Chg.refl [] W10).drew) (by simp)) hM hn (by omega) hN hsrt (by omega) (by omega) (fun y hy => hlo y (by simp; rcases hy with h | h <;> simp [h])) (Sl.own hown10d) (fun k hk => (hown10d.lt k hk).2) (fun k hk => ⟨(hap10 k hk).1, (hap10 k hk).2.2.2⟩) (own_ext hown10 ((Chg.refl [] W10).drew)) hC10.size
  have hEn : E ∉ wb :: bw' :: v4.ownBlock.toList := by
    simp only [List.mem_cons, Option.mem_toList, not_or]
    exact ⟨by omega, by omega, fun h => (hv4ge E (by simpa using h)).2 rfl⟩
  have hDn : D ∉ E :: wb :: bw' :: v4.ownBlock.toList := by
    simp only [List.mem_cons, Option.mem_toList, not_or]
    exact ⟨by omega, by omega, by omega, fun h => by have := (hv4ge D (by simpa using h)).1; omega⟩
  have hswn : sw ∉ E :: wb :: bw' :: v4.ownBlock.toList := by
    simp only [List.mem_cons, Option.mem_toList, not_or]
    exact ⟨by omega, by omega, by omega, fun h => by have := (hv4ge sw (by simpa using h)).1; omega⟩
  have hsX : PX.size = 6 := by rw [hPX]; rfl
  have hi199 : (Tryz.prog.info? 199).map (·.size) = some PX.toList.length := by rw [Array.length_toList, hsX]; kernel_rfl
  have hS12 : ∀ W, Chg (E :: wb :: bw' :: v4.ownBlock.toList) W10 W → W.rangeAt D 0 PX.toList ∧ W.cell? ⟨sw, 1, none⟩ = some (.int .i64 A.length) ∧ Chg (E :: wb :: bw' :: v4.ownBlock.toList) W10 W := fun W hW =>
    ⟨fun j v hv => by rw [Nat.zero_add, (hD10.chg hW hDn).cell, ← Array.getElem?_toList]; exact hv, by rw [hW.cell (by omega) hswn]; exact hk1, hW⟩
  have HPX := Lib.hid hPX
  clear hk1 hPX
  go_wp2_with fail
  try simp only [Act.put, List.setIfInBounds_toArray, List.set_cons_zero, List.set_cons_succ]
  go_cut [] (fun wx => ∃ v5 fr5 pgs5 ls5 fl5 W11, WA W11 wb ba' bm' bw' fr5 rt pgs5 ∧ Mid fr5 pgs5 ls5 [rt] fl5 ∧ W11.ownsRow W9.heap.size 93 2 v5 ls5.length (prs (seps ls5)) ∧ (∀ y ∈ ls5, 36 ≤ load y.l) ∧ flat ls5 = flat A ++ (ins kv z.l ++ flat B) ∧ pgs5 rt = pgs rt ∧ Chg (wb :: bw' :: v4.ownBlock.toList) W10.drew W11 ∧ Chg [E] W11 wx ∧ Blk wx E 199 ((partA rt (rootG (A ++ ([z] ++ B))) v4).setIfInBounds 5 v5))
  case first =>
    refine wp_region_held_drew (S := fun W => W.rangeAt D 0 PX.toList ∧ W.cell? ⟨sw, 1, none⟩ = some (.int .i64 A.length) ∧ Chg (E :: wb :: bw' :: v4.ownBlock.toList) W10 W) (by kernel_rfl) (hS12 _ ((Chg.refl _ W10).drew)) (fun hH => ?_)
    refine wpAnyH_take (i := 0) (v := .pointer (some ⟨wb, 0, none⟩)) rfl (by kernel_rfl) (by kernel_rfl) (by kernel_rfl) (fun _ _ _ h => h) (Or.inl ⟨by rfl, fun w' hw' => by go_simp⟩) hH ?_
    try simp only [List.getElem_toArray, List.getElem_cons_succ, List.getElem_cons_zero, Act.put, List.setIfInBounds_toArray, List.set_cons_zero, List.set_cons_succ]
    refine wpAnyH_take (i := 1) rfl (by kernel_rfl) (by kernel_rfl) (by kernel_rfl) (fun _ _ _ h => h) (yieldsIf_load_mid (by rfl) _ _ rfl (D) (0) rfl PX.toList _ (fun w' hw' => hw'.1) hu199 rfl hi199) hH ?_
    try simp only [List.getElem_toArray, List.getElem_cons_succ, List.getElem_cons_zero, Act.put, List.setIfInBounds_toArray, List.set_cons_zero, List.set_cons_succ]
    refine wpAnyH_take (i := 2) (v := .pointer (some ⟨E, 5, none⟩)) rfl (by kernel_rfl) (by kernel_rfl) (by kernel_rfl) (fun _ _ _ h => h) (Or.inl ⟨by rfl, fun w' hw' => by go_simp⟩) hH ?_
    try simp only [List.getElem_toArray, List.getElem_cons_succ, List.getElem_cons_zero, Act.put, List.setIfInBounds_toArray, List.set_cons_zero, List.set_cons_succ]
    refine wpAnyH_take (i := 4) (v := .slice (some ⟨sw, 0, none⟩) 2 cw) rfl (by kernel_rfl) (by kernel_rfl) (by kernel_rfl) (fun _ _ _ h => h) (Or.inl ⟨by rfl, fun w' hw' => by go_simp⟩) hH ?_
    try simp only [List.getElem_toArray, List.getElem_cons_succ, List.getElem_cons_zero, Act.put, List.setIfInBounds_toArray, List.set_cons_zero, List.set_cons_succ]
    refine wpAnyH_take (i := 5) (v := .int .i64 0) rfl (by kernel_rfl) (by kernel_rfl) (by kernel_rfl) (fun _ _ _ h => h) (Or.inl ⟨by rfl, fun w' hw' => by go_simp⟩) hH ?_
    try simp only [List.getElem_toArray, List.getElem_cons_succ, List.getElem_cons_zero, Act.put, List.setIfInBounds_toArray, List.set_cons_zero, List.set_cons_succ]
    refine wpAnyH_take (i := 6) (v := .pointer (some ⟨sw, 0, none⟩)) rfl (by kernel_rfl) (by kernel_rfl) (by kernel_rfl) (fun _ _ _ h => h) (Or.inl ⟨by rfl, fun w' hw' => by go_simp⟩) hH ?_
    try simp only [List.getElem_toArray, List.getElem_cons_succ, List.getElem_cons_zero, Act.put, List.setIfInBounds_toArray, List.set_cons_zero, List.set_cons_succ]
    refine wpAnyH_take (i := 7) (v := .pointer (some ⟨sw, 1, none⟩)) rfl (by kernel_rfl) (by kernel_rfl) (by kernel_rfl) (fun _ _ _ h => h) (Or.inl ⟨by rfl, fun w' hw' => by go_simp⟩) hH ?_
    try simp only [List.getElem_toArray, List.getElem_cons_succ, List.getElem_cons_zero, Act.put, List.setIfInBounds_toArray, List.set_cons_zero, List.set_cons_succ]
    refine wpAnyH_take (i := 8) (v := .int .i64 A.length) rfl (by kernel_rfl) (by kernel_rfl) (by kernel_rfl) (fun _ _ _ h => h) (yieldsIf_load_cell (by rfl) 3 _ rfl (sw) (1) rfl _ (fun w' hw' => hw'.2.1) (fun w => Tryz.isAgg3 w)) hH ?_
    try simp only [List.getElem_toArray, List.getElem_cons_succ, List.getElem_cons_zero, Act.put, List.setIfInBounds_toArray, List.set_cons_zero, List.set_cons_succ]
    refine wpAnyH_ready (rs := [3]) (by kernel_rfl) (by simp) ?_
    refine AllReadyH.cons rfl (fun K hK => ?_) AllReadyH.nil
    go_simp
    refine hK.out _ _ (hS12 _ ((Chg.refl _ W10).drew)) (fun hH => ?_)
    clear hK K
    try simp only [List.getElem_toArray, List.getElem_cons_succ, List.getElem_cons_zero, Act.put, List.setIfInBounds_toArray, List.set_cons_zero, List.set_cons_succ]
    refine wpAnyH_ready (rs := [9]) (by kernel_rfl) (by simp) ?_
    refine AllReadyH.cons rfl (fun K hK => ?_) AllReadyH.nil
    go_simp
    refine hfix.mono ?_
    rintro e W11 ⟨v5, fr5, pgs5, ls5, fl5, rfl, hW11, hM11, hown11, hlo11, hfl11, hrt11, hC11⟩
    have hC11b : Chg (E :: wb :: bw' :: v4.ownBlock.toList) W10 W11 := ((Chg.refl _ W10).drew).trans (hC11.mono (fun i hi => by simp at hi ⊢; right; exact hi))
    refine hK.out _ _ (hS12 _ hC11b) (fun hH => ?_)
    clear hK K
    try simp only [List.getElem_toArray, List.getElem_cons_succ, List.getElem_cons_zero, Act.put, List.setIfInBounds_toArray, List.set_cons_zero, List.set_cons_succ]
    refine wpAnyH_take (i := 10) (v := .pointer (some ⟨E, 5, none⟩)) rfl (by kernel_rfl) (by kernel_rfl) (by kernel_rfl) (fun _ _ _ h => h) (Or.inl ⟨by rfl, fun w' hw' => by go_simp⟩) hH ?_
    try simp only [List.getElem_toArray, List.getElem_cons_succ, List.getElem_cons_zero, Act.put, List.setIfInBounds_toArray, List.set_cons_zero, List.set_cons_succ]
    have hE11 := hE.drew.chg hC11 hEn
    refine wpAnyH_ready (rs := [11]) (by kernel_rfl) (by simp) ?_
    refine AllReadyH.cons rfl (fun K hK => ?_) AllReadyH.nil
    rw [if_pos (by rfl)]
    refine op_store_one 94 _ _ rfl (E) (5) rfl (v5) rfl 199 (_) hE11 (by simp [partA]) (by kernel_rfl) (own_one hown11) ?_
    intro W12 hC12 hsW12 hBW12
    refine hK.out _ _ (hS12 _ (hC11b.trans (hC12.mono (by simp)))) (fun hH => ?_)
    clear hK K
    try simp only [List.getElem_toArray, List.getElem_cons_succ, List.getElem_cons_zero, Act.put, List.setIfInBounds_toArray, List.set_cons_zero, List.set_cons_succ]
    refine wpAnyH_done (by kernel_rfl) ?_ _
    go_wp2_with fail
    go_meet
    exact ⟨v5, fr5, pgs5, ls5, fl5, W11, hW11, hM11, hown11, hlo11, hfl11, hrt11, hC11, hC12, hBW12⟩
  case rest =>
  obtain ⟨v5, fr5, pgs5, ls5, fl5, W11, hW11, hM11, hown11, hlo11, hfl11, hrt11, hC11, hC12, hE12'⟩ := hcut
  obtain ⟨W12, hW12e⟩ : ∃ W12, W12 = wc := ⟨_, rfl⟩
  rw [← hW12e] at hC12 hE12' ⊢
  clear hW12e hS12 hE5
  have hE12 : Blk W12 E 199 (partA rt (rootG ls5) v5) := hE12'
  have hE11 := hE.drew.chg hC11 hEn
  have hown12 := own_chg hown11 hC12 (fun k hk => by have := own_ne hown11 hE11 (by decide) hk; simpa using this)
  have hlt11 := hW11.ar.lt
  have hs11 := hC11.size
  have hW12 := hW11.chg hC12 (fun i hi => by simp at hi; omega)
  have hCD : Chg (E :: wb :: bw' :: v4.ownBlock.toList) W10 W12 := (((Chg.refl _ W10).drew).trans (hC11.mono (fun i hi => by simp at hi ⊢; right; exact hi))).trans (hC12.mono (by simp))
  have hD12 := hD10.chg hCD hDn
  have hs12 := hC12.size
  have ho5 := own_one hown12
  have hED : E ≠ D := by omega
  go_wp2_with (first
    | (refine wpList_load_row rfl 199 (.tmp 14) rfl E rfl 199 (partA rt (rootG ls5) v5) (0, 0) _ hE12 Tryz.underlying199 rfl (by kernel_rfl) ?_)
    | (refine wpList_store_blk rfl 199 (.tmp 10) (.tmp 86) rfl D rfl (partA rt (rootG ls5) v5) rfl 199 PX hD12 (by kernel_rfl) (by rw [hsX]; rfl) (partA_one ho5) ?_; intro W13 hC13 hs13 hD13))
  rw [rounds_succ]
  go_wp2_with (first
    | (refine wpList_load_row rfl 199 (.tmp 10) rfl D rfl 199 (partA rt (rootG ls5) v5) (0, 0) _ hD13 Tryz.underlying199 rfl (by kernel_rfl) ?_))
  have hW13 := hW12.chg hC13 (fun i hi => by simp at hi; omega)
  have hown13 := own_chg hown12 hC13 (fun k hk => by have := own_ne hown12 hD12 (by decide) hk; simpa using this)
  have hCC : Chg [] w W13 := (((hC9.trans hC10).on hCD (fun i hi => .inr (by
    simp only [List.mem_cons, Option.mem_toList] at hi
    rcases hi with h | h | h | h
    · omega
    · omega
    · omega
    · have := (hv4ge i (by simpa using h)).1; omega)))).on hC13 (fun i hi => .inr (by simp at hi; omega))
  have hT13 : Blk W13 tb 78 #[.pointer (some ⟨ba, 0, none⟩), .int .i64 FL.length] := (((hT9.ext hC10).chg hCD (by
    simp only [List.mem_cons, Option.mem_toList, not_or]
    exact ⟨by omega, by omega, (hT9.chg (Chg.refl [] W9) (by simp)) |> fun h => (hWA9.ar.ne78 h).2.2, fun h => by have := (hv4ge tb (by simpa using h)).1; omega⟩))).chg hC13 (by simp; omega)
  have hll5 : 36 * ls5.length ≤ load (flat ls5) := load_flat ls5 hlo11
  have hl5 : ls5.length ≤ 8 := by rw [hfl11, ← Heq.out] at hll5; omega
  obtain ⟨hok5, hoks5⟩ := hM11.rootOk (by omega)
  have hl5s : (rootG ls5).l.length = ls5.length := seps_len ls5
  have hSl13 : Sl W13 2 v5 (rootG ls5).l.length (prs (rootG ls5).l) := by rw [hl5s]; exact Sl.own hown13
  have hus5 : usedB pgs5 rt = true := by
    have : usedB pgs5 rt = usedB pgs rt := used_far hrt11
    rw [this]; exact used_is hP
  have hlt13 := hW13.ar.lt
  have hs13' := hCC.size
  have hfl13 : flat ls5 = ins kv (flat (A ++ ([z] ++ B))) := by rw [hfl11, ← Heq.out, HFL.out]
  by_cases h1 : ls5.length = 1
  · obtain ⟨x5, hx5⟩ : ∃ x5, ls5 = [x5] := by
      match ls5, h1 with
      | [x5], _ => exact ⟨x5, rfl⟩
    subst hx5
    have hx5r := hM11.rng (x := x5) (by simp)
    have hx5u := hM11.used (x := x5) (by simp)
    have hx5n := hM11.exn.1 x5 (by simp)
    refine (top_one wb ba' bm' bw' fr5 rt pgs5 rt x5.p x5.low (rootG [x5]) v5 W13 hW13 hSl13 rfl hoks5 hok5.l.fit (by show 0 < 1; omega) hrt1 hrt2 hus5 hrt2 hM11.fr40 hx5r.1 hx5r.2 hx5u hx5n.symm).mono ?_
    rintro e W14 ⟨rfl, hW14, hC14⟩
    have cw0 := Blk.cell hW14.wk 0
    have cw1 := Blk.cell hW14.wk 1
    have hT14 := hT13.chg hC14 (by simp; omega)
    go_wp2_with (first
      | (refine wpList_store_one rfl 64 (.tmp 107) (.tmp 104) rfl tb 0 rfl _ rfl 78 _ hT14 (by simp) (by kernel_rfl) rfl ?_; intro W15 hC15 hs15 hT15)
      | (refine wpList_store_one rfl 3 (.tmp 109) (.tmp 105) rfl tb 1 rfl _ rfl 78 _ hT15 (by simp) (by kernel_rfl) rfl ?_; intro W16 hC16 hs16 hT16))
    go_ret
    have hfin : Chg [tb] W14 W16 := hC15.trans hC16
    rw [HFL.out] at hT16
    have hC14w : Chg [] w W14 := hCC.on hC14 (fun i hi => .inr (by simp at hi; omega))
    exact ⟨rfl, ⟨ba', bm', bw', _, _, _, _, _, hT16, hW14.ar.chg hfin (by simp; omega) (by simp; omega) (by simp; omega), .one x5 rfl rfl hM11.exdrop, hfl13⟩, (hC14w.mono (by simp)).trans hfin⟩
  · have h2 : 2 ≤ ls5.length := by
      have := hM11.low0
      obtain ⟨x, r, e, _⟩ := this
      rw [e] at h1 ⊢
      simp at h1 ⊢
      cases r with
      | nil => simp at h1
      | cons y r => simp
    refine (top_write wb ba' bm' bw' fr5 rt pgs5 rt (rootG ls5) v5 W13 hW13 hSl13 (fun k hk => (hown13.lt k hk).2) hok5 hoks5 (by rw [hl5s]; omega) hok5.l.fit (.inr ⟨by show 0 < 1; omega, by rw [hl5s]; exact h1⟩) hrt1 hrt2 hus5 hrt2).mono ?_
    rintro e W14 ⟨pg, rfl, hPg, hW14, hC14⟩
    have cw0 := Blk.cell hW14.wk 0
    have cw1 := Blk.cell hW14.wk 1
    have hT14 := hT13.chg hC14 (by simp; omega)
    go_wp2_with (first
      | (refine wpList_store_one rfl 64 (.tmp 107) (.tmp 104) rfl tb 0 rfl _ rfl 78 _ hT14 (by simp) (by kernel_rfl) rfl ?_; intro W15 hC15 hs15 hT15)
      | (refine wpList_store_one rfl 3 (.tmp 109) (.tmp 105) rfl tb 1 rfl _ rfl 78 _ hT15 (by simp) (by kernel_rfl) rfl ?_; intro W16 hC16 hs16 hT16))
    go_ret
    have hfin : Chg [tb] W14 W16 := hC15.trans hC16
    rw [HFL.out] at hT16
    have hC14w : Chg [] w W14 := hCC.on hC14 (fun i hi => .inr (by simp at hi; omega))
    exact ⟨rfl, ⟨ba', bm', bw', _, _, _, _, _, hT16, hW14.ar.chg hfin (by simp; omega) (by simp; omega) (by simp; omega), .many h2 hM11.exwrite (by rw [upd_at]; exact hPg) hlo11, hfl13⟩, (hC14w.mono (by simp)).trans hfin⟩

end Go.Proofs.YtpcaadipejnllaaGreatDoor

/- A pair is put into a tree. -/
set_option linter.unusedVariables false
set_option linter.unusedSimpArgs false
namespace Go.Proofs.YtpcaadipejnllaaGreatDoor
open Go.RowKit

theorem change_w (tb : Nat) (c : List Pr) (kv : Pr) (kb vb : Nat) (w : World) (hT : TreeS w tb c) (hk : w.cell? ⟨kb, 0, none⟩ = some (.string kv.1)) (hv : w.cell? ⟨vb, 0, none⟩ = some (.string kv.2)) (hkv : OkP kv) (hk0 : 0 < kv.1.size) (h0 : load c ≤ 300) (h300 : load (ins kv c) ≤ 300) :
    Calls Tryz.prog 80 #[.pointer (some ⟨tb, 0, none⟩), .string kv.1, .func (.func 81) #[] #[.pointer (some ⟨kb, 0, none⟩), .pointer (some ⟨vb, 0, none⟩)]] w fun e w' => e = .returned (.int .i64 0) ∧ TreeS w' tb (ins kv c) ∧ Chg [tb] w w' := by
  obtain ⟨ba, bm, bw, fr, rt, pgs, ls, fl, h1, h2, h3, h4⟩ := hT
  have hlc := load_len c
  cases h3 with
  | one x e r m =>
    subst e r
    have hx : x.l = c := by rw [← h4]; simp [flat]
    have hxl : x.l.length = c.length := by rw [hx]
    rw [← hx]
    exact change_one tb ba bm bw fr c.length pgs x kv fl kb vb w h1 h2 m hk hv hkv hk0 (by rw [hx]) (by omega)
  | many n m p l =>
    have hfew : ls.length ≤ 8 := TreeP.few (.many n m p l) (by rw [h4]; exact h0)
    subst h4
    exact change_many tb ba bm bw fr rt _ pgs ls kv fl kb vb w h1 h2 m n hfew p l hk hv hkv hk0 rfl (by omega) h300

set_option maxRecDepth 100000 in
set_option maxHeartbeats 1000000 in
theorem set_w33 (tb : Nat) (c : List Pr) (kv : Pr) (w : World) (hT : TreeS w tb c) (hkv : OkP kv) (hk0 : 0 < kv.1.size) (h0 : load c ≤ 300) (h300 : load (ins kv c) ≤ 300) :
    Calls Tryz.prog 33 #[.pointer (some ⟨tb, 0, none⟩), .string kv.1, .string kv.2] w fun e w' => e = .returned (.int .i64 0) ∧ TreeS w' tb (ins kv c) ∧ Chg [tb] w w' := by
  have hB1 : Blk ((w.alloc (.cells #[.string kv.1] 9)).alloc (.cells #[.string kv.2] 9)) w.heap.size 9 #[.string kv.1] := (Blk.new w 9 _).alloc _
  have hB2 : Blk ((w.alloc (.cells #[.string kv.1] 9)).alloc (.cells #[.string kv.2] 9)) (w.heap.size + 1) 9 #[.string kv.2] := Blk.newEq (by simp)
  have hC : Chg [] w ((w.alloc (.cells #[.string kv.1] 9)).alloc (.cells #[.string kv.2] 9)) := ((Chg.refl _ _).alloc _).alloc _
  go_enter Tryz.func33, Tryz.ntmps33
  go_wp2_with (go_at_call 80; go_loud (refine (change_w tb c kv w.heap.size (w.heap.size + 1) _ (hT.ext hC) (by rw [hB1.cell]; rfl) (by rw [hB2.cell]; rfl) hkv hk0 h0 h300).mono ?_; rintro e w1 ⟨rfl, hT1, hC1⟩))
  go_ret
  exact ⟨rfl, hT1, (hC.mono (by simp)).trans hC1⟩

set_option maxRecDepth 100000 in
set_option maxHeartbeats 1000000 in
theorem tree_none_w (tb : Nat) (c : List Pr) (w : World) (hT : TreeS w tb c) :
    Calls Tryz.prog 51 #[.pointer (some ⟨tb, 0, none⟩)] w fun e w' => e = .returned (.bool false) ∧ w = w' := by
  obtain ⟨ba, bm, bw, fr, rt, pgs, ls, fl, h1, h2, h3, h4⟩ := hT
  have c0 := h1.cell 0
  go_enter Tryz.func51, Tryz.ntmps51
  go_wp2
  go_ret
  exact ⟨rfl, rfl⟩

set_option maxRecDepth 100000 in
set_option maxHeartbeats 1000000 in
theorem check1_w (v : ByteArray) (w : World) (hv : v.size ≤ 40) :
    Calls Tryz.prog 78 #[.string v] w fun e w' => e = .returned (.bool false) ∧ w = w' := by
  have hd : decide (v.size ≤ 40) = true := decide_eq_true hv
  go_enter Tryz.func78, Tryz.ntmps78
  go_wp2_with (go_at_call 79; refine (validvalue_w v _).mono ?_; rintro e w1 ⟨rfl, rfl⟩)
  go_ret
  exact ⟨rfl, rfl⟩

set_option maxRecDepth 100000 in
set_option maxHeartbeats 1000000 in
theorem indexfunc_str (v : ByteArray) (b : Nat) (w : World) (hv : v.size ≤ 40) (hB : w.cell? ⟨b, 0, none⟩ = some (.string v)) :
    Calls Tryz.prog 113 #[.slice (some ⟨b, 0, none⟩) 1 1, .func (.func 78) #[] #[]] w fun e w' => e = .returned (.int .i64 (-1)) ∧ w = w' := by
  go_enter Tryz.func113, Tryz.ntmps113
  go_wp2
  refine wp_loop_rounds 2 ?_
  rw [rounds_succ]
  go_wp2_with (go_at_call 78; refine (check1_w v _ hv).mono ?_; rintro e w1 ⟨rfl, rfl⟩)
  rw [rounds_succ]
  go_wp2
  go_ret
  exact ⟨rfl, rfl⟩

set_option maxRecDepth 100000 in
set_option maxHeartbeats 1000000 in
theorem containsfunc_w (v : ByteArray) (b : Nat) (w : World) (hv : v.size ≤ 40) (hB : w.cell? ⟨b, 0, none⟩ = some (.string v)) :
    Calls Tryz.prog 77 #[.slice (some ⟨b, 0, none⟩) 1 1, .func (.func 78) #[] #[]] w fun e w' => e = .returned (.bool false) ∧ w = w' := by
  go_enter Tryz.func77, Tryz.ntmps77
  go_wp2_with (go_at_call 113; refine (indexfunc_str v b _ hv hB).mono ?_; rintro e w1 ⟨rfl, rfl⟩)
  go_ret
  exact ⟨rfl, rfl⟩

set_option maxRecDepth 100000 in
set_option maxHeartbeats 1000000 in
theorem tcheck_w (tb : Nat) (c : List Pr) (key v : ByteArray) (b : Nat) (w : World) (hT : TreeS w tb c) (h0 : 0 < key.size) (h24 : key.size ≤ 24) (hv : v.size ≤ 40) (hB : w.cell? ⟨b, 0, none⟩ = some (.string v)) :
    Calls Tryz.prog 32 #[.pointer (some ⟨tb, 0, none⟩), .string key, .slice (some ⟨b, 0, none⟩) 1 1] w fun e w' => e = .returned (.int .i64 0) ∧ w = w' := by
  have hd : key.toList.isEmpty = false := nonemp h0
  have hd2 : decide ((24 : Int) < (key.size : Int)) = false := decide_eq_false (by omega)
  go_enter Tryz.func32, Tryz.ntmps32
  go_wp2_with (first
    | (go_at_call 51; refine (tree_none_w tb c _ hT).mono ?_; rintro e w1 ⟨rfl, rfl⟩)
    | (go_at_call 77; refine (containsfunc_w v b _ hv hB).mono ?_; rintro e w1 ⟨rfl, rfl⟩))
  go_ret
  exact ⟨rfl, rfl⟩

set_option maxRecDepth 100000 in
set_option maxHeartbeats 1000000 in
theorem tput_w (tb : Nat) (c : List Pr) (kv : Pr) (w : World) (hT : TreeS w tb c) (hkv : OkP kv) (hk0 : 0 < kv.1.size) (h0 : load c ≤ 300) (h300 : load (ins kv c) ≤ 300) :
    Calls Tryz.prog 12 #[.pointer (some ⟨tb, 0, none⟩), .string kv.1, .string kv.2] w fun e w' => e = .returned (.int .i64 0) ∧ TreeS w' tb (ins kv c) ∧ Chg [tb] w w' := by
  have hB1 : Blk (w.alloc (.cells #[.string kv.2] 9)) w.heap.size 9 #[.string kv.2] := Blk.newEq (by simp)
  have hC : Chg [] w (w.alloc (.cells #[.string kv.2] 9)) := (Chg.refl _ _).alloc _
  go_enter Tryz.func12, Tryz.ntmps12
  go_wp2_with (first
    | (go_at_call 32; refine (tcheck_w tb c kv.1 kv.2 w.heap.size _ (hT.ext hC) hk0 (by have := hkv.k; omega) (by have := hkv.v; omega) (by rw [hB1.cell]; rfl)).mono ?_; rintro e w1 ⟨rfl, rfl⟩)
    | (go_at_call 33; go_loud (refine (set_w33 tb c kv _ (hT.ext hC) hkv hk0 h0 h300).mono ?_; rintro e w2 ⟨rfl, hT1, hC1⟩)))
  go_ret
  exact ⟨rfl, hT1, (hC.mono (by simp)).trans hC1⟩

end Go.Proofs.YtpcaadipejnllaaGreatDoor

/- A new tree; its length; its arena. -/
set_option linter.unusedVariables false
set_option linter.unusedSimpArgs false
namespace Go.Proofs.YtpcaadipejnllaaGreatDoor
open Go.RowKit

theorem mkPg_is : IsPage (mkPg 0 ⟨#[]⟩ ⟨#[]⟩) ⟨0, ⟨#[]⟩, ⟨#[]⟩, 0, []⟩ := by
  obtain ⟨h1, h2, h3⟩ := mkPg_head 0 ⟨#[]⟩ ⟨#[]⟩ (by decide) (by decide)
  exact ⟨h1, ⟨by rw [h2]; rfl, by rw [h3]; rfl, by intro k x hx; simp at hx⟩, ⟨(by intro x hx; cases hx), (fun _ => by intro x hx; cases hx), fun e => absurd rfl e, (by intro k x y hx; simp at hx), by decide⟩, by decide, by decide⟩

theorem fre0 : ∀ (n k : Nat), k + n = 41 → 1 ≤ k → Fre (fun p => freePg (if p < 40 then p + 1 else 0)) (if k ≤ 40 then k else 0) (List.range' k n)
  | 0, k, h, _ => by rw [if_neg (by omega)]; rfl
  | n + 1, k, h, h1 => by
    rw [if_pos (by omega)]
    refine ⟨rfl, ?_, ?_⟩
    · show (decide (1 ≤ wd (freePg (if k < 40 then k + 1 else 0)) 8) && _) = false
      rw [freePg_wd, if_neg (by omega)]
      rfl
    · have h2 := fre0 n (k + 1) (by omega) (by omega)
      have e : (wd (freePg (if k < 40 then k + 1 else 0)) 10).toNat = if k + 1 ≤ 40 then k + 1 else 0 := by
        rw [freePg_wd, if_pos rfl, Int.toNat_natCast]
        by_cases c : k < 40
        · rw [if_pos c, if_pos (by omega)]
        · rw [if_neg c, if_neg (by omega)]
      show Fre _ (wd (freePg (if k < 40 then k + 1 else 0)) 10).toNat _
      rw [e]
      exact h2

theorem mid0 (pg : List Nat) (hP : IsPage pg ⟨0, ⟨#[]⟩, ⟨#[]⟩, 0, []⟩) : Mid 2 (upd (fun p => freePg (if p < 40 then p + 1 else 0)) 1 pg) [⟨1, ⟨#[]⟩, []⟩] [] (List.range' 2 39) := by
  refine ⟨⟨⟨?_, ⟨by decide, by decide, by decide, .inl rfl, by decide, hP.ok⟩, (by intro x hx; cases hx)⟩, trivial⟩, ?_, ?_, ⟨_, _, rfl, rfl⟩, (by intro x hx; cases hx), ?_⟩
  · show IsPage (upd _ 1 pg 1) _
    rw [show upd (fun p => freePg (if p < 40 then p + 1 else 0)) 1 pg 1 = pg from if_pos rfl]
    exact hP
  · refine (fre0 39 2 rfl (by omega)).far fun p hp => ?_
    rw [List.mem_range'_1] at hp
    exact if_neg (by omega)
  · exact List.Perm.refl _
  · exact Srt.nil

set_option maxRecDepth 100000 in
set_option maxHeartbeats 1000000 in
theorem tnew_w (w : World) :
    Calls Tryz.prog 5 #[.int .i64 40] w fun e w' => ∃ tb, e = .returned (.tuple #[.pointer (some ⟨tb, 0, none⟩), .int .i64 0]) ∧ w.heap.size ≤ tb ∧ TreeS w' tb [] ∧ Chg [] w w' := by
  have hP := mkPg_is
  obtain ⟨pg, hpg⟩ : ∃ pg, pg = mkPg 0 ⟨#[]⟩ ⟨#[]⟩ := ⟨_, rfl⟩
  have hmk := fun w : World => make_w 0 ⟨#[]⟩ ⟨#[]⟩ w (by omega) (by decide) (by decide) (.inl rfl)
  rw [← hpg] at hP hmk
  clear hpg
  have hsz : (nums pg).size = 128 := by rw [nums_size]; exact hP.head.len
  have hone : (nums pg).all (·.oneCell') = true := nums_one _
  have Hmk := Lib.hid hmk
  clear hmk
  go_enter Tryz.func5, Tryz.ntmps5
  go_wp2_with (first
    | (go_at_call 22; refine (mem_new _).mono ?_; rintro e w1 ⟨bm, bw, rfl, hb1, hb2, hM1, hC1⟩)
    | (go_at_call 23; refine (format_w bm bw _ hM1).mono ?_; rintro e w2 ⟨ba, bm', bw', rfl, ha1, ha2, ha3, hA2, hC2⟩)
    | (go_at_call 24; refine (Hmk.out _).mono ?_; rintro e w3 ⟨rfl, hC3⟩; have hA3 := hA2.ext hC3)
    | (refine wpList_store_blk rfl 72 (.tmp 7) (.tmp 36) rfl w3.heap.size rfl (nums pg) rfl 72 _ (Blk.new w3 72 _) (hsz ▸ (by kernel_rfl)) (by rw [hsz]; rfl) hone ?_; intro w4 hC4 hs4 hB4; have hA4 := (hA3.ext ((Chg.refl _ _).alloc _)).chg hC4 (by have := hA3.lt; simp; omega) (by have := hA3.lt; simp; omega) (by have := hA3.lt; simp; omega))
    | (refine wpList_load_row rfl 72 (.tmp 7) rfl w3.heap.size rfl 72 (nums pg) (0, 0) _ hB4 Tryz.underlying72 rfl (hsz ▸ (by kernel_rfl)) ?_)
    | (go_at_call 25; refine (alloc_s ba bm' bw' 1 0 _ pg _ hA4 hP.is hP.valid (by omega) (by omega)).mono ?_; rintro e w5 ⟨rfl, hC5, hA5⟩)
    | (go_at_call 26; go_loud (refine (setroot_s ba bm' bw' _ 0 _ 1 _ (hA5.ext ((Chg.refl _ _).alloc _)) (by omega) (by omega) ?cu (by omega)).mono ?_; rotate_left; rintro e w6 ⟨rfl, hC6, hA6⟩)))
  case cu =>
    show usedB (upd _ 1 pg) 1 = true
    unfold usedB
    rw [upd_at, hP.head.kind]
    rfl
  go_ret2
  have hCa : Chg [] w w4 := (((hC1.trans hC2).trans hC3).alloc _).on hC4 (fun i hi => .inr (by simp at hi; have := hC1.size; have := hC2.size; have := hC3.size; omega))
  have hCb : Chg [] w w5 := hCa.on hC5 (fun i hi => .inr (by simp at hi; have := hC1.size; omega))
  have hCc : Chg [] w w6 := (hCb.alloc _).on hC6 (fun i hi => .inr (by simp at hi; have := hC1.size; omega))
  have hT : Blk w6 w5.heap.size 78 #[.pointer (some ⟨ba, 0, none⟩), .int .i64 0] := (Blk.new w5 78 _).chg hC6 (by have := hA5.lt; simp; omega)
  exact ⟨_, rfl, hCb.size, ⟨ba, bm', bw', _, _, _, _, _, hT, hA6, .one _ rfl rfl (mid0 pg hP), rfl⟩, hCc⟩

set_option maxRecDepth 100000 in
set_option maxHeartbeats 1000000 in
theorem tlen_w (tb : Nat) (c : List Pr) (w : World) (hT : TreeS w tb c) :
    Calls Tryz.prog 18 #[.pointer (some ⟨tb, 0, none⟩)] w fun e w' => e = .returned (.int .i64 c.length) ∧ w = w' := by
  obtain ⟨ba, bm, bw, fr, rt, pgs, ls, fl, h1, h2, h3, h4⟩ := id hT
  have c1 := h1.cell 1
  go_enter Tryz.func18, Tryz.ntmps18
  go_wp2_with (go_at_call 51; refine (tree_none_w tb c _ hT).mono ?_; rintro e w1 ⟨rfl, rfl⟩)
  go_ret
  exact ⟨rfl, rfl⟩

set_option maxRecDepth 100000 in
set_option maxHeartbeats 1000000 in
theorem tarena_w (tb : Nat) (c : List Pr) (w : World) (hT : TreeS w tb c) :
    Calls Tryz.prog 21 #[.pointer (some ⟨tb, 0, none⟩)] w fun e w' => ∃ (ba bm bw fr rt : Nat) (pgs : Nat → List Nat) (ls : List Lf) (fl : List Nat), e = .returned (.pointer (some ⟨ba, 0, none⟩)) ∧ ArS w' ba bm bw fr rt pgs ∧ TreeP fr rt pgs ls fl ∧ flat ls = c ∧ w.heap.size ≤ ba ∧ w.heap.size ≤ bm ∧ w.heap.size ≤ bw ∧ Chg [] w w' := by
  obtain ⟨ba, bm, bw, fr, rt, pgs, ls, fl, h1, h2, h3, h4⟩ := id hT
  have c0 := h1.cell 0
  go_enter Tryz.func21, Tryz.ntmps21
  go_wp2_with (first
    | (go_at_call 51; refine (tree_none_w tb c _ hT).mono ?_; rintro e w1 ⟨rfl, rfl⟩)
    | (go_at_call 56; refine (arena_copy ba bm bw fr rt pgs _ h2).mono ?_; rintro e w1 ⟨ba', bm', bw', rfl, hx1, hx2, hx3, hA, hC⟩))
  go_ret
  exact ⟨ba', bm', bw', fr, rt, pgs, ls, fl, rfl, hA, h3, h4, hx1, hx2, hx3, hC⟩

end Go.Proofs.YtpcaadipejnllaaGreatDoor

/- The entry of a row in an index. -/
set_option linter.unusedVariables false
set_option linter.unusedSimpArgs false
namespace Go.Proofs.YtpcaadipejnllaaGreatDoor
open Go.RowKit

theorem info62 : (Tryz.prog.info? 62).map (fun i => (i.zero, i.size, i.bytes)) = some (some (.agg #[.int .i64 0, .int .u64 0, .int .i64 0, .string ⟨#[]⟩, .bool false]), 5, 48) := by kernel_rfl
theorem cls_one (l : List Cl) : ∀ u ∈ cls l, u.oneCell' = true := by
  intro u hu
  simp only [cls, List.mem_flatMap] at hu
  obtain ⟨c, _, hu⟩ := hu
  have h := cs_one c
  rw [Array.all_eq_true_iff_forall_mem] at h
  exact h u (by simpa using hu)

/-- Cells behind other cells. -/
theorem wpList_append_cl {w : World} {ops : Array Oper} {rest : List Oper} {o : Oper} {a : Act} {Q : Exit → Act → World → Prop} (hgd : o.guard = none) (s x : Operand)
    (ho : o.op = .call { callee := .builtin .append, args := #[s, x], argTypes := #[42, 42] })
    (base : Nat) (v : Value) (L M : List Cl) (hs : a.eval s = v) (hown : w.ownsRow base 62 5 v L.length (cls L)) (A : Option Addr) (c : Nat) (hx : a.eval x = .slice A M.length c) (hS : Sl w 5 (.slice A M.length c) M.length (cls M)) (h0 : 0 < M.length) (hL : L.length ≤ 2000) (hM : M.length ≤ 2000) (hbase : base ≤ w.heap.size)
    (h : ∀ v' w', w'.ownsRow base 62 5 v' (L ++ M).length (cls (L ++ M)) → Chg v.ownBlock.toList w w' → wpList Tryz.prog ops Q rest (a.put o.dst v') w') : wpList Tryz.prog ops Q (o :: rest) a w := by
  obtain ⟨i0, hi, hz0, hz1, hz2⟩ := info_parts info62
  obtain ⟨b, off, rfl, hb, hcell⟩ := hS.at_ h0
  refine wpList_append_own w hgd s x 42 ho base 62 i0 _ 5 48 Tryz.underlying42 hi hz0 hz1 hz2 rfl (by decide) v L.length (cls L) hs hown ⟨b, off, none⟩ M.length c (cls M) hx (cls_len M) (fun j z hj => ?_) (cls_one M) (by unfold maxLen; omega) (by omega) hbase (fun v' w' h3 h4 _ => h v' w' (by rw [List.length_append, cls_app]; exact h3) (Chg.of_grown h4))
  have hjl := (List.getElem?_eq_some_iff.1 hj).1
  rw [cls_len] at hjl
  rw [add_mk, hcell j hjl]
  exact hj

theorem Sl.ofCell {w : World} {b : Nat} {c : Cl} (h : Blk w b 62 c.cs) : Sl w 5 (.slice (some ⟨b, 0, none⟩) 1 1) 1 (cls [c]) := by
  refine ⟨by rw [cls_len]; rfl, _, 1, rfl, Nat.le_refl _, by decide, .inr ⟨b, 0, rfl, h.lt, fun j hj => ?_⟩⟩
  have e : cls [c] = c.cs.toList := by simp [cls]
  rw [Nat.zero_add, h.cell, e, Array.getElem?_toList]

theorem run_buildSlice_cl (w : World) (cs : Array Value) (h : cs.size = 5) :
    (Instr.buildSlice 42 1 #[(0, .agg cs)]).run Tryz.prog w = .ok (.slice (some ⟨w.heap.size, 0, none⟩) 1 1) (w.alloc (.cells cs 62)) := by
  obtain ⟨l⟩ := cs
  match l, h with
  | [a, b, c, d, e], _ =>
    simp only [Instr.buildSlice, Sem.run_bind, run_underlying Tryz.underlying42, Result.andThen_ok, Tryz.sizeOf62, Tryz.zeroValue62]
    have key : ∀ Z : Array Value, Z.size = 5 → (((((Z.setIfInBounds 0 a).setIfInBounds 1 b).setIfInBounds 2 c).setIfInBounds 3 d).setIfInBounds 4 e) = #[a, b, c, d, e] := by
      rintro ⟨Z⟩ hZ
      match Z, hZ with
      | [z0, z1, z2, z3, z4], _ => simp
    simp [Instr.fill, Value.cells, newRow, Sem.run_bind]
    rw [key _ (by simp)]
theorem wpList_buildSlice_cl {w : World} {ops : Array Oper} {rest : List Oper} {o : Oper} {a : Act} {Q : Exit → Act → World → Prop} (hgd : o.guard = none) (x : Operand) (ho : o.op = .buildSlice 42 1 #[(0, x)]) (c : Cl) (hx : a.eval x = .agg c.cs)
    (h : wpList Tryz.prog ops Q rest (a.put o.dst (.slice (some ⟨w.heap.size, 0, none⟩) 1 1)) (w.alloc (.cells c.cs 62))) : wpList Tryz.prog ops Q (o :: rest) a w := by
  refine wpList_plain hgd fun K hK => ?_
  have hr := run_buildSlice_cl w c.cs (cs_size c)
  unfold Oper.wp execOp
  simp only [ho, List.map_toArray, List.map_cons, List.map_nil, hx, Sem.run_bind, hr, Result.andThen_ok]
  exact hK _ _ h

set_option maxRecDepth 100000 in
set_option maxHeartbeats 1000000 in
theorem ientry_w (t : Tb) (vk vr v : Value) (x0 x1 x2 : Cl) (cb cc : Nat) (w : World) (hk1 : t.k.length = 1) (h1 : KS w vk t.k) (h2 : KS w vr t.r) (hS : Sl w 5 v 3 (cls [x0, x1, x2])) (hc : w.cell? ⟨cb, 0, none⟩ = some (.int .i64 2)) :
    Calls Tryz.prog 36 #[.agg (tbV t vk vr), .agg #[.int .i64 3, .slice (some ⟨cb, 0, none⟩) 1 cc, .bool false], v] w fun e w' => ∃ v', e = .returned v' ∧ w'.ownsRow w.heap.size 62 5 v' 2 (cls [x2, x0]) ∧ Chg [] w w' := by
  have h1' := h1.form
  rw [hk1] at h1'
  obtain ⟨A1, c1, rfl, hc1, hm1⟩ := h1'
  obtain ⟨A2, c2, rfl, hc2, hm2⟩ := h2.form
  obtain ⟨A, c, rfl, hc3, hm3⟩ := hS.form
  obtain ⟨s, o, rfl, hs, hx⟩ := hS.at_ (by omega)
  have hB : Blk ((w.alloc (.cells (tbV t (.slice A1 1 c1) (.slice A2 t.r.length c2)) 37)).alloc (.cells #[.int .i64 3, .slice (some ⟨cb, 0, none⟩) 1 cc, .bool false] 41)) w.heap.size 37 (tbV t (.slice A1 1 c1) (.slice A2 t.r.length c2)) := (Blk.new _ _ _).alloc _
  have hD : Blk ((w.alloc (.cells (tbV t (.slice A1 1 c1) (.slice A2 t.r.length c2)) 37)).alloc (.cells #[.int .i64 3, .slice (some ⟨cb, 0, none⟩) 1 cc, .bool false] 41)) (w.heap.size + 1) 41 #[.int .i64 3, .slice (some ⟨cb, 0, none⟩) 1 cc, .bool false] := Blk.newEq (by simp)
  have hC0 : Chg [] w ((w.alloc (.cells (tbV t (.slice A1 1 c1) (.slice A2 t.r.length c2)) 37)).alloc (.cells #[.int .i64 3, .slice (some ⟨cb, 0, none⟩) 1 cc, .bool false] 41)) := ((Chg.refl _ _).alloc _).alloc _
  have d1 := hD.cell 1
  have hcb : cb < w.heap.size := block_lt_of_cell hc
  have hc' : ((w.alloc (.cells (tbV t (.slice A1 1 c1) (.slice A2 t.r.length c2)) 37)).alloc (.cells #[.int .i64 3, .slice (some ⟨cb, 0, none⟩) 1 cc, .bool false] 41)).cell? ⟨cb, 0, none⟩ = some (.int .i64 2) := by rw [hC0.cell hcb (by simp)]; exact hc
  have hl2 : ∀ W', Chg [] w W' → ∀ j, j < 5 → W'.cell? ⟨s, o + 10 + j, none⟩ = x2.cs.toList[j]? := fun W' hC' j hj => by
    rw [hC'.cell hs (by simp), Nat.add_assoc, hx _ (by omega)]
    exact cls_get [x0, x1, x2] 2 x2 rfl j hj
  have hS1 : ∀ W', Chg [] w W' → Sl W' 5 (.slice (some ⟨s, o, none⟩) 1 c) 1 (cls [x0]) := fun W' hC' => (hS.ext hC').take5 (l := [x0, x1, x2]) (k := 1) (by simp)
  have Hl2 := Lib.hid hl2
  have HS1 := Lib.hid hS1
  clear hl2 hx hS1
  have hX2 : Blk (((w.alloc (.cells (tbV t (.slice A1 1 c1) (.slice A2 t.r.length c2)) 37)).alloc (.cells #[.int .i64 3, .slice (some ⟨cb, 0, none⟩) 1 cc, .bool false] 41)).alloc (.cells x2.cs 62)) (w.heap.size + 1 + 1) 62 x2.cs := Blk.newEq (by simp)
  have hwh : w.heap.size ≤ (((w.alloc (.cells (tbV t (.slice A1 1 c1) (.slice A2 t.r.length c2)) 37)).alloc (.cells #[.int .i64 3, .slice (some ⟨cb, 0, none⟩) 1 cc, .bool false] 41)).alloc (.cells x2.cs 62)).heap.size := by simp; omega
  go_enter Tryz.func36, Tryz.ntmps36
  go_wp2
  refine wp_loop_rounds 2 ?_
  rw [rounds_succ]
  go_wp2_with (first
    | (refine wpList_load_cl rfl (.tmp 20) rfl s (o + 10) rfl x2 (Hl2.out _ hC0) ?_)
    | (refine wpList_buildSlice_cl rfl (.tmp 21) rfl x2 rfl ?_)
    | (at_builtin; go_loud (refine wpList_append_cl rfl _ _ rfl w.heap.size (.slice none 0 0) [] [x2] rfl (World.ownsRow_nil _ _ _ _) _ 1 rfl (Sl.ofCell (Blk.new _ 62 x2.cs)) (Nat.succ_pos _) (Nat.zero_le _) (Nat.le_add_left 1 1999) hwh ?_; intro v1 w1 hown1 hC1)))
  rw [rounds_succ]
  have hCC1 := ((hC0.alloc (.cells x2.cs 62)).trans (show Chg [] _ w1 from hC1))
  have hwh1 : w.heap.size ≤ w1.heap.size := hCC1.size
  have hD1 : w1.cell? ⟨w.heap.size, 1, none⟩ = some (.slice A1 1 c1) := by rw [hC1.cell (by simp; omega) (by simp [Value.ownBlock])]; exact (hB.alloc _).cell 1
  have h1c : 1 ≤ c := by omega
  go_wp2_with (first
    | (at_builtin; go_loud (refine wpList_append_cl rfl _ _ rfl w.heap.size v1 [x2] [x0] rfl hown1 _ c rfl (HS1.out _ hCC1) (Nat.succ_pos _) (Nat.le_add_left 1 1999) (Nat.le_add_left 1 1999) hwh1 ?_; intro v2 w2 hown2 hC2)))
  go_ret
  exact ⟨v2, rfl, hown2, hCC1.on hC2 (fun i hi => .inr (by have := (hown1.lt i (by simpa using hi)).1; omega))⟩

end Go.Proofs.YtpcaadipejnllaaGreatDoor
