/- A tree that is changed: a single leaf. -/
import Derived.Test.YtpcaadipejnllaaGreatDoorPart14
import Derived.Test.YtpcaadipejnllaaGreatDoorPart09

set_option linter.unusedVariables false
set_option linter.unusedSimpArgs false
namespace Go.Proofs.YtpcaadipejnllaaGreatDoor
open Go.RowKit

theorem wpList_load_mid {ops : Array Oper} {rest : List Oper} {o : Oper} {a : Act} {w : World} {Q : Exit → Act → World → Prop} (hgd : o.guard = none) (ty : TypeId) (x : Operand) (ho : o.op = .load ty x)
    (b k : Nat) (hx : a.eval x = .pointer (some ⟨b, k, none⟩)) (cs : List Value) (hc : ∀ j v, cs[j]? = some v → w.cell? ⟨b, k + j, none⟩ = some v) (d : TypeDesc) (hu : Tryz.prog.underlying ty = some d) (hd : d.isRow = true) (hi : (Tryz.prog.info? ty).map (·.size) = some cs.length)
    (h : wpList Tryz.prog ops Q rest (a.put o.dst (.agg cs.toArray)) w) : wpList Tryz.prog ops Q (o :: rest) a w := by
  refine wpList_plain hgd fun K hK => ?_
  have hr := run_loadAt_mid (P := Tryz.prog) w b k ty cs d hc hu hd hi
  unfold Oper.wp execOp
  simp only [ho, hx, Sem.run_bind, hr, Result.andThen_ok]
  exact hK _ _ h

theorem stepC_all (n at_ : Nat) (pg : List Nat) : (stepC n at_ pg).toArray.all (·.oneCell') = true := by
  rw [Array.all_eq_true]
  intro i hi
  exact stepC_one n at_ pg _ (by rw [List.getElem_toArray]; exact List.getElem_mem _)
theorem stepC_info (n at_ : Nat) (pg : List Nat) (h : pg.length = 128) : (Tryz.prog.info? 197).map (·.size) = some (stepC n at_ pg).toArray.size ∧ (Tryz.prog.info? 197).map (·.size) = some (stepC n at_ pg).length ∧ Tryz.zeroCells197.size = (stepC n at_ pg).toArray.size := by
  rw [List.size_toArray, stepC_len _ _ _ h]
  exact ⟨by kernel_rfl, by kernel_rfl, zc197⟩

theorem step_cells {w : World} {b k n at_ : Nat} {pg : List Nat} (h : ∀ j v, (stepC n at_ pg)[j]? = some v → w.cell? ⟨b, k + j, none⟩ = some v) : w.cell? ⟨b, k, none⟩ = some (.int .i64 n) ∧ w.cell? ⟨b, k + 1, none⟩ = some (.int .i64 at_) ∧ ∀ j v, (nums pg).toList[j]? = some v → w.cell? ⟨b, k + 2 + j, none⟩ = some v :=
  ⟨h 0 _ rfl, h 1 _ rfl, fun j v hv => by rw [show k + 2 + j = k + (j + 2) by omega]; exact h (j + 2) v hv⟩

set_option maxRecDepth 100000 in
set_option maxHeartbeats 1000000 in
theorem change_one (tb ba bm bw fr many : Nat) (pgs : Nat → List Nat) (x : Lf) (kv : Pr) (fl : List Nat) (kb vb : Nat) (w : World) (hT : Blk w tb 78 #[.pointer (some ⟨ba, 0, none⟩), .int .i64 many]) (hA : ArS w ba bm bw fr x.p pgs) (hM : Mid fr pgs [x] [] fl)
    (hk : w.cell? ⟨kb, 0, none⟩ = some (.string kv.1)) (hv : w.cell? ⟨vb, 0, none⟩ = some (.string kv.2)) (hkv : OkP kv) (hk0 : 0 < kv.1.size) (hmany : many = x.l.length) (hxl : x.l.length ≤ 400) :
    Calls Tryz.prog 80 #[.pointer (some ⟨tb, 0, none⟩), .string kv.1, .func (.func 81) #[] #[.pointer (some ⟨kb, 0, none⟩), .pointer (some ⟨vb, 0, none⟩)]] w fun e w' => e = .returned (.int .i64 0) ∧ TreeS w' tb (ins kv x.l) ∧ Chg [tb] w w' := by
  have hkl := block_lt_of_cell hk
  have hvl := block_lt_of_cell hv
  obtain ⟨hlK, hlS, hl108⟩ := hM.allok (x := x) (by simp)
  obtain ⟨hN, hF, h117⟩ := hM.new1 hkv hk0
  have t0 := hT.cell 0
  have t1 := hT.cell 1
  go_enter Tryz.func80, Tryz.ntmps80
  go_wp2_with (first
    | (go_at_call 56; go_loud (refine (arena_copy ba bm bw fr x.p pgs _ hA).mono ?_; rintro e w1 ⟨ba', bm', bw', rfl, hb1, hb2, hb3, hA1, hC1⟩)))
  have hs1 := hC1.size
  have hlt1 := hA1.lt
  have hWA : WA (w1.alloc (.cells #[.pointer (some ⟨ba', 0, none⟩), .int .i64 0] 193)) w1.heap.size ba' bm' bw' fr x.p pgs := ⟨Blk.new w1 193 _, hA1.ext ((Chg.refl _ _).alloc _), by omega, by omega, by omega⟩
  have hLf := (Mid.fence (A := []) (x := x) (B := []) hM).1
  have hP := hLf.is
  obtain ⟨G, hG, hGl⟩ : ∃ G : PG, G = pgL x (hiL ⟨#[]⟩ []) (nxL 0 []) ∧ G.l = x.l := ⟨_, rfl, rfl⟩
  rw [← hG] at hP
  have hG0 : G.lvl = 0 := by rw [hG]; rfl
  have HG := Lib.hid hG
  have HGl := Lib.hid hGl
  have HG0 := Lib.hid hG0
  clear hG hGl hG0
  have hxr := hM.rng (x := x) (by simp)
  have hlP := hP.head.len
  have hszP : (nums (pgs x.p)).size = 128 := by rw [nums_size]; exact hlP
  obtain ⟨W2, hW2⟩ : ∃ W2, W2 = w1.alloc (.cells #[.pointer (some ⟨ba', 0, none⟩), .int .i64 0] 193) := ⟨_, rfl⟩
  have hs2 : W2.heap.size = w1.heap.size + 1 := by rw [hW2]; simp
  have hC2 : Chg [] w W2 := by rw [hW2]; exact hC1.alloc _
  rw [← hW2] at hWA ⊢
  clear hW2
  refine (descend_one ba' bm' bw' fr x.p pgs kv.1 _ W2 hWA.ar hxr.1 hxr.2 hP HG0.out).mono ?_
  rintro e W3 ⟨vw, rfl, hway, hC3⟩
  obtain ⟨sw, ow, cw, rfl, hsw, hxw⟩ := own_at hway (by omega)
  obtain ⟨curw, rfl, hBw, hbw, hcw1, hcw2, hcw3, hcw4⟩ := own_blk hway
  have hcw5 : cw ≤ 9223372036854775807 := by unfold maxLen at hcw2; omega
  have hst : ∀ W, Chg [w1.heap.size] W3 W → ∀ j v, (stepC x.p 0 (pgs x.p))[j]? = some v → W.cell? ⟨sw, 0 + j, none⟩ = some v := fun W hW j v hv => by
    have hj := (List.getElem?_eq_some_iff.1 hv).1
    rw [stepC_len _ _ _ hlP] at hj
    rw [hW.cell hsw (by simp; omega), hxw j (by omega)]
    exact hv
  have Hst := Lib.hid hst
  have hi72 : (Tryz.prog.info? 72).map (·.size) = some (nums (pgs x.p)).toList.length := by rw [Array.length_toList, hszP]; kernel_rfl
  obtain ⟨hi1, hi2, hi3⟩ := stepC_info x.p 0 (pgs x.p) hlP
  have hal := stepC_all x.p 0 (pgs x.p)
  clear hst hxw hBw
  go_wp2_with (first
    | (refine wpList_load_mid rfl 197 (.tmp 32) rfl sw 0 rfl (stepC x.p 0 (pgs x.p)) (Hst.out _ (Chg.refl _ _)) _ Tryz.underlying197 rfl hi2 ?_)
    | (refine wpList_store_blk rfl 197 (.tmp 9) (.tmp 33) rfl W3.heap.size rfl (stepC x.p 0 (pgs x.p)).toArray rfl 197 _ (Blk.new W3 197 _) hi1 hi3 hal ?_; intro W4 hC4 hs4 hB4; have hC24 : Chg [] W2 W4 := (hC3.alloc _).on hC4 (fun i hi => .inr (by simp at hi; have := hC3.size; omega)); obtain ⟨s0, s1, s2⟩ := step_cells (w := W4) (b := W3.heap.size) (k := 0) (n := x.p) (at_ := 0) (pg := pgs x.p) (fun j v hv => by rw [Nat.zero_add, hB4.cell]; simpa using hv); clear s1)
    | (refine wpList_load_mid rfl 72 (.tmp 36) rfl W3.heap.size 2 rfl (nums (pgs x.p)).toList s2 _ Tryz.underlying72 rfl hi72 ?_)
    | (go_at_call 115; (try rw [Array.toArray_toList]); go_loud (refine (partof_w x.p (pgs x.p) _ _ hP).mono ?_; rintro e W5 ⟨v2, rfl, hown5, hC5⟩; have hC25 := hC24.trans hC5; rw [HGl.out] at hown5; obtain ⟨A2, c2, rfl, _, _⟩ := (Sl.own hown5).form))
    | (go_loud (refine wpList_store_blk rfl 199 (.tmp 10) (.tmp 38) rfl W5.heap.size rfl (partA x.p G (.slice A2 x.l.length c2)) rfl 199 _ (Blk.new W5 199 _) (by kernel_rfl) rfl (partA_one rfl) ?_; intro W6 hC6 hs6 hB6; obtain ⟨_, _, _, _, _, q5⟩ := partA_cells hB6; have hC46 : Chg [] W2 W6 := (hC25.alloc _).on hC6 (fun i hi => .inr (by simp at hi; have := hC25.size; omega)); have hown6 : W6.ownsRow W2.heap.size 93 2 (.slice A2 x.l.length c2) x.l.length (prs x.l) := own_chg (own_ext (own_base hown5 hC24.size) ((Chg.refl _ _).alloc _)) hC6 (fun k hk => by have := (hown5.lt k hk).2; simp; omega)))
    | (go_at_call 81; go_loud (refine (set1_w W2.heap.size x.l kv _ kb vb _ hown6 hC46.size hlS (by omega) (by rw [(hC2.trans hC46).cell hkl (by simp)]; exact hk) (by rw [(hC2.trans hC46).cell hvl (by simp)]; exact hv)).mono ?_; rintro e W7 ⟨v3, rfl, hown7, hC7⟩; obtain ⟨A3, c3, rfl, _, _⟩ := (Sl.own hown7).form; have hB7 := hB6.chg hC7 (by intro h; have h := Option.mem_toList.1 h; have := (hown5.lt _ h).2; omega)))
    | (refine wpList_store_one rfl 94 (.tmp 46) (.tmp 45) rfl W5.heap.size 5 rfl (.slice A3 (ins kv x.l).length c3) rfl 199 _ hB7 (by simp [partA]) (by kernel_rfl) rfl ?_; intro W8 hC8 hs8 hB8))
  have hC27 : Chg [] W2 W7 := hC46.on hC7 (fun i hi => .inr (by have h := Option.mem_toList.1 hi; exact (hown6.lt _ h).1))
  have hs25 := hC25.size
  have hs24 := hC24.size
  have hC28 : Chg [] W2 W8 := hC27.on hC8 (fun i hi => .inr (by simp at hi; omega))
  have hCw := hC2.trans hC28
  have hG' := HG.out
  have hB9 : Blk W8 W5.heap.size 199 (partA x.p ⟨0, x.low, ⟨#[]⟩, 0, ins kv x.l⟩ (.slice A3 (ins kv x.l).length c3)) := by
    have : (partA x.p G (.slice A2 x.l.length c2)).setIfInBounds 5 (.slice A3 (ins kv x.l).length c3) = partA x.p ⟨0, x.low, ⟨#[]⟩, 0, ins kv x.l⟩ (.slice A3 (ins kv x.l).length c3) := by rw [hG']; rfl
    rw [← this]; exact hB8
  have hown8 := own_chg hown7 hC8 (fun k hk => by
    have h1 := own_ne hown7 hB7 (by decide) hk
    simpa using h1)
  have hW8 := hWA.chg hC28 (by simp)
  have hT8 := hT.ext hCw
  have hkv8 := hk
  clear hB8 hB7 hB6 hB4 q5 s0 s2 hG' hC8 hs8 hC7 hown7 hC46 hown6 hC6 hs6 hown5 hC5 hs4 hC4
  obtain ⟨y0, y1, y2, y3, y4, y5⟩ := partA_cells hB9
  clear y0 y1 y2 y3 y4
  have u0 := hT8.cell 0
  have u1 := hT8.cell 1
  obtain ⟨ln, hln⟩ : ∃ ln, ln = (ins kv x.l).length := ⟨_, rfl⟩
  have hln2 := ins_len kv x.l
  subst hmany
  have hw1 : IntKind.i64.wrap ((x.l.length : Int) + ((ins kv x.l).length : Int)) = (x.l.length : Int) + ((ins kv x.l).length : Int) := by rw [IntKind.wrap_i64]; omega
  have hw2 : IntKind.i64.wrap ((x.l.length : Int) + ((ins kv x.l).length : Int) - (x.l.length : Int)) = ((ins kv x.l).length : Int) := by rw [IntKind.wrap_i64]; omega
  clear hln
  go_quiet (fail)
  clear hw1 hw2 y5
  go_wp2_with fail
  refine wp_loop_rounds 1 ?_
  rw [rounds_succ]
  go_wp2_with (first
    | (refine wpList_load_row rfl 199 (.tmp 10) rfl W5.heap.size rfl 199 (partA x.p ⟨0, x.low, ⟨#[]⟩, 0, ins kv x.l⟩ (.slice A3 (ins kv x.l).length c3)) (0, 0) _ (hB9.drewN _) Tryz.underlying199 rfl (by kernel_rfl) ?_))
  obtain ⟨W9, hW9e⟩ : ∃ W9, W9 = W8.drewN nq := ⟨_, rfl⟩
  rw [← hW9e]
  have hWA9 : WA W9 w1.heap.size ba' bm' bw' fr x.p pgs := by rw [hW9e]; exact hW8.chg ((Chg.refl [] W8).drewN nq) (by simp)
  have hT9 : Blk W9 tb 78 #[.pointer (some ⟨ba, 0, none⟩), .int .i64 x.l.length] := by rw [hW9e]; exact hT8
  have hown9 : W9.ownsRow W2.heap.size 93 2 (.slice A3 (ins kv x.l).length c3) (ins kv x.l).length (prs (ins kv x.l)) := by rw [hW9e]; exact own_ext hown8 ((Chg.refl [] W8).drewN nq)
  have hC9 : Chg [] w W9 := by rw [hW9e]; exact hCw.drewN nq
  clear hW9e hW8 hT8 hown8 hB9
  have hSl9 := Sl.own hown9
  have hvn9 : ∀ k, (Value.slice A3 (ins kv x.l).length c3).ownBlock = some k → k < W9.heap.size := fun k hk => (hown9.lt k hk).2
  have hap9 := hWA9.apart hown9
  have hus := hM.used (x := x) (by simp)
  have hlen : (ins kv x.l).length ≤ 1000 := by omega
  have hll := load_len (ins kv x.l)
  have hs9 := hC9.size
  have hfr := hM.fr40
  have htb := hT.lt
  by_cases hsm : load (ins kv x.l) ≤ 108
  · refine (top_write w1.heap.size ba' bm' bw' fr x.p pgs x.p ⟨0, x.low, ⟨#[]⟩, 0, ins kv x.l⟩ _ W9 hWA9 hSl9 hvn9 (hF.pg (okL0 hN.k hN.s hsm)) hN.k.ok hlen hsm (.inl rfl) hxr.1 hxr.2 hus hxr.2).mono ?_
    rintro e W10 ⟨pg, rfl, hPg, hW10, hC10⟩
    have cw0 := Blk.cell hW10.wk 0
    have cw1 := Blk.cell hW10.wk 1
    have hT10 := hT9.chg hC10 (by simp; omega)
    have hC10w : Chg [] w W10 := hC9.on hC10 (fun i hi => .inr (by simp at hi; omega))
    go_wp2_with (first
      | (refine wpList_store_one rfl 64 (.tmp 107) (.tmp 104) rfl tb 0 rfl _ rfl 78 _ hT10 (by simp) (by kernel_rfl) rfl ?_; intro W11 hC11 hs11 hT11)
      | (refine wpList_store_one rfl 3 (.tmp 109) (.tmp 105) rfl tb 1 rfl _ rfl 78 _ hT11 (by simp) (by kernel_rfl) rfl ?_; intro W12 hC12 hs12 hT12))
    go_ret
    have hfin : Chg [tb] W10 W12 := hC11.trans hC12
    refine ⟨rfl, ⟨ba', bm', bw', fr, x.p, _, _, fl, hT12, hW10.ar.chg hfin (by simp; omega) (by simp; omega) (by simp; omega), .one ⟨x.p, x.low, ins kv x.l⟩ rfl rfl (Mid.write (A := []) (B := []) hM hN (by simpa [flat] using hN.s) hPg), by simp [flat]⟩, (hC10w.mono (by simp)).trans hfin⟩
  · have hfn : fl ≠ [] := by
      have := hM.len
      intro e
      rw [e] at this
      simp at this
    obtain ⟨fl1, rfl, hu1, hf1⟩ := hM.free.some hfn
    have hfn1 : fl1 ≠ [] := by
      have := hM.len
      intro e
      rw [e] at this
      simp at this
    obtain ⟨fl2, hfl2, hu2, hf2⟩ := hf1.some hfn1
    have hfrr := (hM.mem fr).1 (by simp)
    have hnf : x.p ≠ fr := fun e => hM.nfl (x := x) (by simp) (by simp [e])
    have hn2 := (hM.mem (wd (pgs fr) 10).toNat).1 (by rw [hfl2]; simp)
    have hnd := hM.nd
    have hn3 : (wd (pgs fr) 10).toNat ≠ fr := by
      intro e
      have := (List.nodup_append.1 hnd).2.1
      rw [hfl2, e] at this
      simp at this
    have hn4 : (wd (pgs fr) 10).toNat ≠ x.p := fun e => hM.nfl (x := x) (by simp) (by rw [hfl2, e]; simp)
    have hpar := fun k y a b => half_parts hN hF (by omega) (by omega) (show fr ≤ 511 by omega) k y a b
    have h2l : 2 ≤ (ins kv x.l).length := by have := load_le (show OkS (ins kv x.l) from hN.k.ok); omega
    refine (top_split w1.heap.size ba' bm' bw' fr x.p pgs x.p ⟨0, x.low, ⟨#[]⟩, 0, ins kv x.l⟩ _ W9 hWA9 hSl9 hvn9 hN.k.ok hlen h2l (by show 109 ≤ load (ins kv x.l); omega) (by show load (ins kv x.l) ≤ 10000; omega) rfl (fun k y a b => ⟨(hpar k y a b).1, (hpar k y a b).2.2.1, (hpar k y a b).2.2.2.1⟩) (fun k y a b => (hpar k y a b).2.1) hfrr.1 hfrr.2 hn2.1 hn2.2 hn3 hn4 hxr.1 hxr.2 hus hxr.2 hnf (fun k hk => ⟨(hap9 k hk).1, (hap9 k hk).2.2.2⟩)).mono ?_
    rintro e W10 ⟨k, y, pgR, pgL, pgT, rfl, hH, hy, hPR, hPL, hPT, hW10, hC10⟩
    have cw0 := Blk.cell hW10.wk 0
    have cw1 := Blk.cell hW10.wk 1
    have hT10 := hT9.chg hC10 (by simp; omega)
    have hC10w : Chg [] w W10 := hC9.on hC10 (fun i hi => .inr (by simp at hi; omega))
    have HHalf := Lib.hid hH
    clear hH
    go_wp2_with (first
      | (refine wpList_store_one rfl 64 (.tmp 107) (.tmp 104) rfl tb 0 rfl _ rfl 78 _ hT10 (by simp) (by kernel_rfl) rfl ?_; intro W11 hC11 hs11 hT11)
      | (refine wpList_store_one rfl 3 (.tmp 109) (.tmp 105) rfl tb 1 rfl _ rfl 78 _ hT11 (by simp) (by kernel_rfl) rfl ?_; intro W12 hC12 hs12 hT12))
    go_ret
    have hfin : Chg [tb] W10 W12 := hC11.trans hC12
    have hH := HHalf.out
    obtain ⟨_, _, _, _, p36, p36'⟩ := hpar k y hH hy
    obtain ⟨fl', e1, e2, hM2⟩ := Mid.split (A := []) (B := []) hM (by simp) hN (by simpa [flat] using hN.s) hH.pos hy hPL hPR
    injection e1 with _ e1
    subst e1
    rw [hfl2] at hM2
    have hM3 := Mid.extake (pg := pgT) hM2
    have ewd : upd (upd pgs fr pgR) x.p pgL (wd (pgs fr) 10).toNat = pgs (wd (pgs fr) 10).toNat := by rw [upd_far hn4, upd_far hn3]
    rw [ewd] at hM3
    refine ⟨rfl, ⟨ba', bm', bw', _, _, _, _, fl2, hT12, hW10.ar.chg hfin (by simp; omega) (by simp; omega) (by simp; omega), .many (ls := [⟨x.p, x.low, (ins kv x.l).take k⟩, ⟨fr, y.1, (ins kv x.l).drop k⟩]) (by simp) hM3 ?_ ?_, by simp [flat]⟩, (hC10w.mono (by simp)).trans hfin⟩
    · rw [upd_at]
      have hxl : x.low = ⟨#[]⟩ := by
        obtain ⟨x0, r, e, hl⟩ := hM.low0
        injection e with e _
        rw [e]; exact hl
      have : rootG [⟨x.p, x.low, (ins kv x.l).take k⟩, ⟨fr, y.1, (ins kv x.l).drop k⟩] = root2 x.p fr y.1 := by
        unfold rootG root2 seps
        simp [hxl]
      rw [this]
      exact hPT
    · intro z hz
      simp at hz
      rcases hz with rfl | rfl
      · exact p36
      · exact p36'

end Go.Proofs.YtpcaadipejnllaaGreatDoor

/- A leaf settled below a root. -/
set_option linter.unusedVariables false
set_option linter.unusedSimpArgs false
namespace Go.Proofs.YtpcaadipejnllaaGreatDoor
open Go.RowKit

theorem Mid.pair {fr : Nat} {pgs : Nat → List Nat} {A B : List Lf} {ex fl : List Nat} {a b : Lf} {la lb : List Pr} (H : Mid fr pgs (A ++ ([a, b] ++ B)) ex fl) (hNa : NewL a.low b.low la) (hNb : NewL b.low (hiL ⟨#[]⟩ B) lb) :
    NewL a.low (hiL ⟨#[]⟩ B) (la ++ lb) ∧ FenceOk a.low (hiL ⟨#[]⟩ B) (nxL 0 B) := by
  obtain ⟨t1, t2, t3, t4, t5⟩ := H.two
  have F2 := t2.ok.fence
  have F1 := t1.ok.fence
  exact ⟨hNa.join hNb t3 t4 t2.ok.ord, F1.low24, F2.high24, F2.ord.imp id (fun e => ⟨e.1, cmp_trans t4 e.2⟩), F2.nx⟩

theorem seps_get (A B : List Lf) (x : Lf) : (seps (A ++ (x :: B)))[A.length]? = some (x.low, numS x.p) := by
  simp [seps]
theorem seps_at (A B : List Lf) (x : Lf) : (seps (A ++ (x :: B))).take (A.length + 1) = seps (A ++ [x]) ∧ (seps (A ++ (x :: B))).drop (A.length + 1) = seps B := by
  constructor
  · rw [show A ++ (x :: B) = (A ++ [x]) ++ B by simp, seps_app]
    exact List.take_left' (by simp [seps])
  · rw [show A ++ (x :: B) = (A ++ [x]) ++ B by simp, seps_app]
    exact List.drop_left' (by simp [seps])
theorem seps_take (A B : List Lf) : (seps (A ++ B)).take A.length = seps A := by
  rw [seps_app]; exact List.take_left' (by simp [seps])

/-- What settling leaves: leaves below a root again. -/
def Fixed (w : World) (wb ba bm bw rt base : Nat) (pgs : Nat → List Nat) (vu : Value) (c : List Pr) (e : Ending) (w' : World) : Prop :=
  ∃ (v' : Value) (fr' : Nat) (pgs' : Nat → List Nat) (ls' : List Lf) (fl' : List Nat), e = .returned v' ∧ WA w' wb ba bm bw fr' rt pgs' ∧ Mid fr' pgs' ls' [rt] fl' ∧ w'.ownsRow base 93 2 v' ls'.length (prs (seps ls')) ∧ (∀ y ∈ ls', 36 ≤ load y.l) ∧ flat ls' = c ∧ pgs' rt = pgs rt ∧ Chg (wb :: bw :: vu.ownBlock.toList) w w'

set_option maxRecDepth 100000 in
set_option maxHeartbeats 1000000 in
theorem fix_mid (wb ba bm bw fr rt base : Nat) (pgs : Nat → List Nat) (A B : List Lf) (x : Lf) (l : List Pr) (fl : List Nat) (v vu : Value) (w : World) (hW : WA w wb ba bm bw fr rt pgs) (hM : Mid fr pgs (A ++ ([x] ++ B)) [rt] fl)
    (hn : 2 ≤ (A ++ ([x] ++ B)).length) (hn8 : (A ++ ([x] ++ B)).length ≤ 12) (hN : NewL x.low (hiL ⟨#[]⟩ B) l) (hs : Srt (flat A ++ (l ++ flat B))) (hl1 : 0 < l.length) (hl2 : load l ≤ 117) (hlo : ∀ y, y ∈ A ∨ y ∈ B → 36 ≤ load y.l)
    (hS : Sl w 2 v l.length (prs l)) (hvb : ∀ k, v.ownBlock = some k → k < w.heap.size) (hvn : ∀ k, v.ownBlock = some k → k ≠ wb ∧ k ≠ bw)
    (hup : w.ownsRow base 93 2 vu (A ++ ([x] ++ B)).length (prs (seps (A ++ ([x] ++ B))))) (hbase : base ≤ w.heap.size) :
    Calls Tryz.prog 116 #[.pointer (some ⟨wb, 0, none⟩), .agg (partA x.p ⟨0, x.low, hiL ⟨#[]⟩ B, nxL 0 B, l⟩ v), vu, .int .i64 A.length] w (Fixed w wb ba bm bw rt base pgs vu (flat A ++ (l ++ flat B))) := by
  have hF := (Mid.fence (x := x) hM).2
  have hxr := hM.rng (x := x) (by simp)
  have hxu := hM.used (x := x) (by simp)
  obtain ⟨hex1, hex2, hrt1, hrt2⟩ := hM.exn
  have hfr := hM.fr40
  have hln := load_len l
  have hlen := hM.len
  have hupl : (seps (A ++ ([x] ++ B))).length = (A ++ ([x] ++ B)).length := by simp [seps]
  have hAl : A.length < (A ++ ([x] ++ B)).length := by simp
  have hrx : rt ≠ x.p := (hex1 x (by simp)).symm
  by_cases h108 : 108 < load l
  · have hfl : fl ≠ [] := by
      intro e; rw [e] at hlen; simp at hlen hn8; omega
    obtain ⟨fl1, e1, hu1, hf1⟩ := hM.free.some hfl
    have hfrr := (hM.mem fr).1 (by rw [e1]; simp)
    have hnf : x.p ≠ fr := fun e => hM.nfl (x := x) (by simp) (by rw [e1, e]; simp)
    have hrf : rt ≠ fr := (hex2 fr (by rw [e1]; simp)).symm
    have hpar := fun k y a b => half_parts (l := l) hN hF (by omega) (by omega) (show fr ≤ 511 by omega) k y a b
    have h2l : 2 ≤ l.length := by have := load_le (show OkS l from hN.k.ok); omega
    refine (fix_split wb ba bm bw fr rt pgs x.p ⟨0, x.low, hiL ⟨#[]⟩ B, nxL 0 B, l⟩ v vu A.length base (seps (A ++ ([x] ++ B))) w hW hS hvb hN.k.ok (by show l.length ≤ 1000; omega) h2l (by show 109 ≤ load l; omega) (by show load l ≤ 10000; omega) (fun k y a b => (hpar k y a b).1) (fun k y a b => (hpar k y a b).2.1) hfrr.1 hfrr.2 hxr.1 hxr.2 hxu hrt2 hnf hvn (by rw [hupl]; exact hup) hbase (by rw [hupl]; exact hAl) (by rw [hupl]; omega)).mono ?_
    rintro e w' ⟨k, y, pgR, pgL, v', rfl, hH, hy, hPR, hPL, hW', hown', hC'⟩
    obtain ⟨_, _, _, _, p36, p36'⟩ := hpar k y hH hy
    obtain ⟨fl', e2, e3, hM2⟩ := Mid.split hM hfl hN hs hH.pos hy hPL hPR
    refine ⟨v', _, _, _, fl', rfl, hW', hM2, ?_, ?_, ?_, ?_, hC'⟩
    · obtain ⟨q1, q2⟩ := seps_at A B x
      have e4 : (seps (A ++ ([x] ++ B))).take (A.length + 1) ++ (y.1, numS fr) :: (seps (A ++ ([x] ++ B))).drop (A.length + 1) = seps (A ++ ([⟨x.p, x.low, l.take k⟩, ⟨fr, y.1, l.drop k⟩] ++ B)) := by
        show (seps (A ++ (x :: B))).take (A.length + 1) ++ (y.1, numS fr) :: (seps (A ++ (x :: B))).drop (A.length + 1) = _
        rw [q1, q2]
        simp [seps]
      rw [e4, hupl] at hown'
      have e5 : (A ++ ([(⟨x.p, x.low, l.take k⟩ : Lf), ⟨fr, y.1, l.drop k⟩] ++ B)).length = (A ++ ([x] ++ B)).length + 1 := by simp; omega
      rw [e5]
      exact hown'
    · intro z hz
      simp at hz
      rcases hz with hz | rfl | rfl | hz
      · exact hlo z (.inl hz)
      · exact p36
      · exact p36'
      · exact hlo z (.inr hz)
    · rw [flat_app, flat_app]
      simp [flat]
    · rw [upd_far hrx, upd_far hrf]
  · by_cases h36 : 36 ≤ load l
    · refine (fix_write wb ba bm bw fr rt pgs x.p ⟨0, x.low, hiL ⟨#[]⟩ B, nxL 0 B, l⟩ v vu A.length w hW hS hvb (hF.pg (okL0 hN.k hN.s (by omega))) hN.k.ok (by show l.length ≤ 1000; omega) h36 (by show load l ≤ 108; omega) hxr.1 hxr.2 hxu hrt2).mono ?_
      rintro e w' ⟨pg, rfl, hP, hW', hC'⟩
      refine ⟨vu, fr, _, _, fl, rfl, hW', Mid.write hM hN hs hP, ?_, ?_, ?_, upd_far hrx, hC'.mono (by simp)⟩
      · have e5 : (A ++ ([(⟨x.p, x.low, l⟩ : Lf)] ++ B)).length = (A ++ ([x] ++ B)).length := by simp
        have e6 : seps (A ++ ([(⟨x.p, x.low, l⟩ : Lf)] ++ B)) = seps (A ++ ([x] ++ B)) := by simp [seps]
        rw [e5, e6]
        exact own_chg hup hC' (fun q hq => by have := hW.apart hup q hq; simp; omega)
      · intro z hz
        simp at hz
        rcases hz with hz | rfl | hz
        · exact hlo z (.inl hz)
        · exact h36
        · exact hlo z (.inr hz)
      · rw [flat_app, flat_app]
        simp [flat]
    · cases B with
      | cons b B =>
        have hM2 : Mid fr pgs (A ++ ([x, b] ++ B)) [rt] fl := hM
        obtain ⟨t1, t2, t3, t4, t5⟩ := hM2.two
        have hbr := hM2.rng (x := b) (by simp)
        have hbu := hM2.used (x := b) (by simp)
        have hNb := t2.new
        obtain ⟨hJ, hJF⟩ := hM2.pair hN hNb
        have hb36 := hlo b (.inr (by simp))
        have hb108 := t2.is.ok.fit
        have hbl := load_len b.l
        have hrb : rt ≠ b.p := (hex1 b (by simp)).symm
        have e7 : load (l ++ b.l) = load l + load b.l := load_app _ _
        have hb1 : 0 < b.l.length := by
          rcases Nat.eq_zero_or_pos b.l.length with h | h
          · rw [List.eq_nil_of_length_eq_zero h] at hb36
            simp [load] at hb36
          · exact h
        have hfit : load b.l ≤ 108 := hb108
        refine (fix_poor wb ba bm bw fr rt pgs x.p ⟨0, x.low, b.low, b.p, l⟩ v vu A.length (A.length + 1) base b.p b.low (pgL b (hiL ⟨#[]⟩ B) (nxL 0 B)) (seps (A ++ ([x, b] ++ B))) w hW hS hvb hN.k.ok (by show l.length ≤ 1000; omega) (by show load l < 36; omega) hxr.1 hxr.2 hxu hrt2 hfr hvn
          (by have : (seps (A ++ ([x, b] ++ B))).length = (A ++ ([x] ++ b :: B)).length := by simp [seps]
              rw [this]; exact hup) hbase (by simp [seps]) (by simp [seps] at hn8 ⊢; omega) (.inl ⟨by simp [seps], rfl⟩)
          (by have := seps_get (A ++ [x]) B b; simpa using this) hbr.1 hbr.2 t2.is hbu t5 hrx hrb hl1 hb1 (by show b.l.length ≤ 200; omega) (hM2.allok (x := b) (by simp)).1.ok
          x.p b.p ⟨0, x.low, b.low, b.p, l⟩ (pgL b (hiL ⟨#[]⟩ B) (nxL 0 B)) (.inl ⟨rfl, rfl, rfl, rfl, rfl⟩) (A.length + 1) (by rw [if_pos (by omega)])
          (fun h => hJF.pg (okL0 hJ.k hJ.s h))
          (fun h k y hH hy => by
            have := half_parts (fr := b.p) hJ hJF (show 109 ≤ load (l ++ b.l) from h) (by omega) (by omega) k y hH hy
            exact ⟨this.2.1, this.1⟩)).mono ?_
        rintro e w' (⟨hm, pg, v', rfl, hP, hW', hown', hC'⟩ | ⟨hm, k, y, pgLf, pgR, z, rfl, hH, hy, hPL, hPR, hW', hz, hown', hC'⟩)
        · have hm' : load (l ++ b.l) ≤ 108 := hm
          refine ⟨v', _, _, _, _, rfl, hW', Mid.merge hM2 hN hNb (by simpa [flat] using hs) hP, ?_, ?_, ?_, ?_, hC'⟩
          · obtain ⟨q1, _⟩ := seps_at A (b :: B) x
            obtain ⟨_, q2⟩ := seps_at (A ++ [x]) B b
            have e4 : (seps (A ++ ([x, b] ++ B))).take (A.length + 1) ++ (seps (A ++ ([x, b] ++ B))).drop (A.length + 1 + 1) = seps (A ++ ([⟨x.p, x.low, l ++ b.l⟩] ++ B)) := by
              have r1 : (seps (A ++ ([x, b] ++ B))).take (A.length + 1) = seps (A ++ [x]) := q1
              have r2 : (seps (A ++ ([x, b] ++ B))).drop (A.length + 1 + 1) = seps B := by simpa using q2
              rw [r1, r2]
              simp [seps]
            rw [e4] at hown'
            have e5 : (A ++ ([(⟨x.p, x.low, l ++ b.l⟩ : Lf)] ++ B)).length = (seps (A ++ ([x, b] ++ B))).length - 1 := by simp [seps] <;> omega
            rw [e5]
            exact hown'
          · intro z hz
            simp at hz
            rcases hz with hz | rfl | hz
            · exact hlo z (.inl hz)
            · show 36 ≤ load (l ++ b.l); omega
            · exact hlo z (.inr (by simp [hz]))
          · rw [flat_app, flat_app]
            simp [flat]
          · rw [upd_far hrb, upd_far hrx]
        · have hm' : 108 < load (l ++ b.l) := hm
          have hH : HalfAt (l ++ b.l) k := hH
          have hy : (l ++ b.l)[k]? = some y := hy
          obtain ⟨_, _, _, _, p36, p36'⟩ := half_parts (fr := b.p) hJ hJF (show 109 ≤ load (l ++ b.l) from hm') (by omega) (by omega) k y hH hy
          refine ⟨vu, _, _, _, _, rfl, hW', Mid.even hM2 hN hNb (by simpa [flat] using hs) hH.pos hy hPL hPR, ?_, ?_, ?_, ?_, hC'⟩
          · have hz2 : z = (b.low, numS b.p) := by
              have := seps_get (A ++ [x]) B b
              have r : (seps (A ++ ([x, b] ++ B)))[A.length + 1]? = some (b.low, numS b.p) := by simpa using this
              rw [r] at hz
              injection hz with hz
              exact hz.symm
            have e4 : (seps (A ++ ([x, b] ++ B))).set (A.length + 1) (y.1, z.2) = seps (A ++ ([⟨x.p, x.low, (l ++ b.l).take k⟩, ⟨b.p, y.1, (l ++ b.l).drop k⟩] ++ B)) := by
              rw [hz2]
              simp [seps]
            rw [e4] at hown'
            have e5 : (A ++ ([(⟨x.p, x.low, (l ++ b.l).take k⟩ : Lf), ⟨b.p, y.1, (l ++ b.l).drop k⟩] ++ B)).length = (seps (A ++ ([x, b] ++ B))).length := by simp [seps]
            rw [e5]
            exact hown'
          · intro z hz
            simp at hz
            rcases hz with hz | rfl | rfl | hz
            · exact hlo z (.inl hz)
            · exact p36
            · exact p36'
            · exact hlo z (.inr (by simp [hz]))
          · rw [flat_app, flat_app]
            have : flat [(⟨x.p, x.low, (l ++ b.l).take k⟩ : Lf), ⟨b.p, y.1, (l ++ b.l).drop k⟩] = l ++ b.l := by
              show (l ++ b.l).take k ++ ((l ++ b.l).drop k ++ []) = l ++ b.l
              rw [List.append_nil, List.take_append_drop]
            rw [this]
            simp [flat]
          · rw [upd_far hrb, upd_far hrx]
      | nil =>
        rcases List.eq_nil_or_concat A with h | ⟨A', a, h⟩
        · subst h; simp at hn
        · rw [List.concat_eq_append] at h
          subst h
          have eA : (A' ++ [a]) ++ ([x] ++ []) = A' ++ ([a, x] ++ []) := by simp
          have hM2 : Mid fr pgs (A' ++ ([a, x] ++ [])) [rt] fl := eA ▸ hM
          obtain ⟨t1, t2, t3, t4, t5⟩ := hM2.two
          have har := hM2.rng (x := a) (by simp)
          have hau := hM2.used (x := a) (by simp)
          have hNa := t1.new
          obtain ⟨hJ, hJF⟩ := hM2.pair hNa hN
          have ha36 := hlo a (.inl (by simp))
          have hal := load_len a.l
          have hra : rt ≠ a.p := (hex1 a (by simp)).symm
          have e7 : load (a.l ++ l) = load a.l + load l := load_app _ _
          have ha1 : 0 < a.l.length := by
            rcases Nat.eq_zero_or_pos a.l.length with h | h
            · rw [List.eq_nil_of_length_eq_zero h] at ha36
              simp [load] at ha36
            · exact h
          have hfit : load a.l ≤ 108 := t1.is.ok.fit
          have hlenA : (A' ++ [a]).length = A'.length + 1 := by simp
          have hsl : (seps (A' ++ ([a, x] ++ []))).length = A'.length + 2 := by simp [seps]
          rw [hlenA]
          refine (fix_poor wb ba bm bw fr rt pgs x.p ⟨0, x.low, ⟨#[]⟩, 0, l⟩ v vu (A'.length + 1) A'.length base a.p a.low (pgL a x.low x.p) (seps (A' ++ ([a, x] ++ []))) w hW hS hvb hN.k.ok (by show l.length ≤ 1000; omega) (by show load l < 36; omega) hxr.1 hxr.2 hxu hrt2 hfr hvn
            (by rw [hsl, ← eA]
                have : ((A' ++ [a]) ++ ([x] ++ [])).length = A'.length + 2 := by simp
                rw [this] at hup; exact hup) hbase (by rw [hsl]; omega) (by rw [hsl]; simp at hn8; omega) (.inr ⟨by rw [hsl], rfl⟩)
            (by have := seps_get A' [x] a; simpa using this) har.1 har.2 t1.is hau t5.symm hrx hra hl1 ha1 (by show a.l.length ≤ 200; omega) (hM2.allok (x := a) (by simp)).1.ok
            a.p x.p (pgL a x.low x.p) ⟨0, x.low, ⟨#[]⟩, 0, l⟩ (.inr ⟨rfl, rfl, rfl, rfl, rfl⟩) (A'.length + 1) (by rw [if_neg (by omega)])
            (fun h => hJF.pg (okL0 hJ.k hJ.s h))
            (fun h k y hH hy => by
              have := half_parts (fr := x.p) hJ hJF (show 109 ≤ load (a.l ++ l) from h) (by omega) (by omega) k y hH hy
              exact ⟨this.2.1, this.1⟩)).mono ?_
          rintro e w' (⟨hm, pg, v', rfl, hP, hW', hown', hC'⟩ | ⟨hm, k, y, pgLf, pgR, z, rfl, hH, hy, hPL, hPR, hW', hz, hown', hC'⟩)
          · have hm' : load (a.l ++ l) ≤ 108 := hm
            refine ⟨v', _, _, _, _, rfl, hW', Mid.merge hM2 hNa hN (by simpa [flat] using hs) hP, ?_, ?_, ?_, ?_, hC'⟩
            · obtain ⟨q1, _⟩ := seps_at A' [x] a
              have e4 : (seps (A' ++ ([a, x] ++ []))).take (A'.length + 1) ++ (seps (A' ++ ([a, x] ++ []))).drop (A'.length + 1 + 1) = seps (A' ++ ([⟨a.p, a.low, a.l ++ l⟩] ++ [])) := by
                have r1 : (seps (A' ++ ([a, x] ++ []))).take (A'.length + 1) = seps (A' ++ [a]) := q1
                have r2 : (seps (A' ++ ([a, x] ++ []))).drop (A'.length + 1 + 1) = [] := List.drop_eq_nil_of_le (by rw [hsl]; omega)
                rw [r1, r2]
                simp [seps]
              rw [e4] at hown'
              have e5 : (A' ++ ([(⟨a.p, a.low, a.l ++ l⟩ : Lf)] ++ [])).length = (seps (A' ++ ([a, x] ++ []))).length - 1 := by rw [hsl]; simp
              rw [e5]
              exact hown'
            · intro z hz
              simp at hz
              rcases hz with hz | rfl
              · exact hlo z (.inl (by simp [hz]))
              · show 36 ≤ load (a.l ++ l); omega
            · rw [flat_app, flat_app]
              simp [flat]
            · rw [upd_far hrx, upd_far hra]
          · have hm' : 108 < load (a.l ++ l) := hm
            have hH : HalfAt (a.l ++ l) k := hH
            have hy : (a.l ++ l)[k]? = some y := hy
            obtain ⟨_, _, _, _, p36, p36'⟩ := half_parts (fr := x.p) hJ hJF (show 109 ≤ load (a.l ++ l) from hm') (by omega) (by omega) k y hH hy
            refine ⟨vu, _, _, _, _, rfl, hW', Mid.even hM2 hNa hN (by simpa [flat] using hs) hH.pos hy hPL hPR, ?_, ?_, ?_, ?_, hC'⟩
            · have hz2 : z = (x.low, numS x.p) := by
                have := seps_get (A' ++ [a]) [] x
                have r : (seps (A' ++ ([a, x] ++ [])))[A'.length + 1]? = some (x.low, numS x.p) := by simpa using this
                rw [r] at hz
                injection hz with hz
                exact hz.symm
              have e4 : (seps (A' ++ ([a, x] ++ []))).set (A'.length + 1) (y.1, z.2) = seps (A' ++ ([⟨a.p, a.low, (a.l ++ l).take k⟩, ⟨x.p, y.1, (a.l ++ l).drop k⟩] ++ [])) := by
                rw [hz2]
                simp [seps]
              rw [e4] at hown'
              have e5 : (A' ++ ([(⟨a.p, a.low, (a.l ++ l).take k⟩ : Lf), ⟨x.p, y.1, (a.l ++ l).drop k⟩] ++ [])).length = (seps (A' ++ ([a, x] ++ []))).length := by simp [seps]
              rw [e5]
              exact hown'
            · intro z hz
              simp at hz
              rcases hz with hz | rfl | rfl
              · exact hlo z (.inl (by simp [hz]))
              · exact p36
              · exact p36'
            · rw [flat_app, flat_app]
              have : flat [(⟨a.p, a.low, (a.l ++ l).take k⟩ : Lf), ⟨x.p, y.1, (a.l ++ l).drop k⟩] = a.l ++ l := by
                show (a.l ++ l).take k ++ ((a.l ++ l).drop k ++ []) = a.l ++ l
                rw [List.append_nil, List.take_append_drop]
              rw [this]
              simp [flat]
            · rw [upd_far hrx, upd_far hra]

end Go.Proofs.YtpcaadipejnllaaGreatDoor

/- The plain law of a tree: a pair goes to its leaf. -/
set_option linter.unusedVariables false
set_option linter.unusedSimpArgs false
namespace Go.Proofs.YtpcaadipejnllaaGreatDoor
open Go.RowKit

theorem numS_inj {a b : Nat} (ha : a ≤ 511) (hb : b ≤ 511) (h : numS a = numS b) : a = b := by
  have h1 := pk_num a ha
  have h2 := pk_num b hb
  rw [h] at h1
  omega

theorem Mid.put {fr : Nat} {pgs : Nat → List Nat} {A B : List Lf} {z : Lf} {ex fl : List Nat} (H : Mid fr pgs (A ++ ([z] ++ B)) ex fl) {kv : Pr} (h1 : OkP kv) (h2 : 0 < kv.1.size)
    (hlo : cmpS z.low kv.1 ≤ 0) (hhi : ∀ b B', B = b :: B' → cmpS kv.1 b.low < 0) :
    NewL z.low (hiL ⟨#[]⟩ B) (ins kv z.l) ∧ ins kv (flat (A ++ ([z] ++ B))) = flat A ++ (ins kv z.l ++ flat B) ∧ Srt (flat A ++ (ins kv z.l ++ flat B)) := by
  obtain ⟨hA, hzB⟩ := Lvs.app.1 H.lvs
  obtain ⟨hz, hB⟩ := hzB
  obtain ⟨o1, o2, o3⟩ := H.allok (x := z) (by simp)
  have hlows := H.lows
  have hkA : ∀ y ∈ flat A, cmpS y.1 kv.1 < 0 := by
    cases A with
    | nil => simp [flat]
    | cons a A =>
      have hzl : 0 < z.low.size := hlows z (by simp)
      have := (hA.below (fun y hy => hlows y (by simp at hy ⊢; exact .inl hy)) hzl).1
      exact fun y hy => cmp_lt_le (this y hy) hlo
  have hkB : ∀ y ∈ flat B, cmpS kv.1 y.1 < 0 := by
    cases B with
    | nil => simp [flat]
    | cons b B =>
      have hb := hhi b B rfl
      have hBl : ∀ y ∈ B, 0 < y.low.size := fun y hy => hlows y (by
        cases A with
        | nil => simp [hy]
        | cons a A => simp [hy])
      have := (Lvs.above hB hBl).1
      exact fun y hy => cmp_lt_le hb (this y hy)
  have e : ins kv (flat (A ++ ([z] ++ B))) = flat A ++ (ins kv z.l ++ flat B) := by
    rw [flat_app, flat_app]
    have : flat [z] = z.l := by simp [flat]
    rw [this]
    exact ins_app hkA hkB
  refine ⟨⟨o1.ins h1 h2, o2.ins, fun y hy => ?_⟩, e, ?_⟩
  · rcases ins_mem kv z.l y hy with rfl | hy
    · refine Ins.of hlo ?_
      cases B with
      | nil => exact .inl rfl
      | cons b B =>
        have hb : 0 < b.low.size := hlows b (by
          cases A with
          | nil => simp
          | cons a A => simp)
        exact .inr ⟨size_empty hb, hhi b B rfl⟩
    · exact hz.ins y hy
  · rw [← e]; exact H.srt.ins

/-- The leaf that a root's slot names. -/
theorem seps_leaf {ls : List Lf} {i q : Nat} {x : Pr} (hr : ∀ y ∈ ls, 1 ≤ y.p ∧ y.p ≤ 40) (hx : (seps ls)[i]? = some x) (hq : x.2 = numS q) (hq2 : q ≤ 511) :
    ∃ A z B, ls = A ++ ([z] ++ B) ∧ A.length = i ∧ z.p = q ∧ x.1 = z.low := by
  simp only [seps, List.getElem?_map, Option.map_eq_some_iff] at hx
  obtain ⟨z, hz, rfl⟩ := hx
  have hil := (List.getElem?_eq_some_iff.1 hz).1
  refine ⟨ls.take i, z, ls.drop (i + 1), ?_, by rw [List.length_take]; omega, ?_, rfl⟩
  · have e1 : ls.drop i = z :: ls.drop (i + 1) := by
      rw [List.drop_eq_getElem_cons hil]
      congr 1
      exact (List.getElem?_eq_some_iff.1 hz).2
    conv => lhs; rw [← List.take_append_drop i ls]
    rw [e1]
    rfl
  · have := hr z (List.mem_of_getElem? hz)
    exact numS_inj (by omega) hq2 hq

end Go.Proofs.YtpcaadipejnllaaGreatDoor
