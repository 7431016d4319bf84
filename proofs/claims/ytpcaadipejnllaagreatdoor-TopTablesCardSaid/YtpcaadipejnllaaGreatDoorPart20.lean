/- A row is put into a base. -/
import Derived.Test.YtpcaadipejnllaaGreatDoorPart18

set_option linter.unusedVariables false
set_option linter.unusedSimpArgs false
namespace Go.Proofs.YtpcaadipejnllaaGreatDoor
open Go.RowKit

theorem BasS.put {w w' : World} {bb mb base mb2 base2 : Nat} {t : Tb} {vk vr vx v v2 : Value} {L L2 : List Pr} (h : BasS w bb mb base t vk vr vx v L) (hm : ModV w mb2 base2 v2 L2) (hC : Chg [bb] w w') (hB : Blk w' bb 91 (baseC t vk vr vx mb2)) : BasS w' bb mb2 base2 t vk vr vx v2 L2 := by
  obtain ⟨a1, ⟨B2, a2⟩, ⟨B3, a3⟩, a4, a5, a6⟩ := h
  exact ⟨hB, ⟨B2, own_chg a2 hC (fun k hk hm => own_ne a2 a1 (by decide) hk (by simpa using hm))⟩, ⟨B3, own_chg a3 hC (fun k hk hm => own_ne a3 a1 (by decide) hk (by simpa using hm))⟩, hm.chg hC (fun e => hm.b.ne_ a1 (by decide) (by simpa using e)) (fun k hk e => own_ne hm.o a1 (by decide) hk (by simpa using e)), a5, a6⟩

section
variable (bb mb base : Nat) (vk vr vx v : Value) (L : List Pr) (cb cc : Nat) (p : Per) (Bu : Nat) (u : Value) (w : World)
set_option maxRecDepth 100000 in
set_option maxHeartbeats 1000000 in
theorem bput_t0 (h : BasS w bb mb base tT vk vr (.slice none 0 0) v L) (hp : p.Ok) (hu : w.ownsRow Bu 62 5 u 2 (cls (rT p))) (hG : Gv w) (hn : L.length ≤ 800) (hg : ∀ x ∈ L, x.1 ≠ (prT p).1) :
    Calls Tryz.prog 13 #[.pointer (some ⟨bb, 0, none⟩), u] w fun e w' => ∃ mb' base' v', e = .returned (.int .i64 0) ∧ BasS w' bb mb' base' tT vk vr (.slice none 0 0) v' (ins (prT p) (L)) ∧ Chg [bb] w w' := by
  obtain ⟨z0, z1, z2⟩ := prT_size hp
  have hul := fun k hk => (hu.lt k hk).2
  have hK1 := h.ks
  have hK2 := h.rs
  have hB := h.b
  have hrow := row_w tT vk vr u (rT p) w (rT_ok hp) hK1 hK2 (Sl.own hu) hul hG (Nat.le_trans z1 (by decide)) (by show (prT p).2.size ≤ 40; omega)
  have Hrow := Lib.hid hrow
  clear hrow
  go_enter Tryz.func13, Tryz.ntmps13
  go_wp2_with (first
    | (go_at_call 34; refine (bnone_w bb mb base tT vk vr (.slice none 0 0) v L _ h).mono ?_; rintro e w9 ⟨rfl, rfl⟩)
    | (refine wpList_load_tb (by rfl) (.tmp 29) rfl bb mb rfl tT vk vr (.slice none 0 0) hB ?_)
    | (go_at_call 11; refine (Hrow.out).mono ?_; rintro e w1 ⟨rfl, hC1⟩; have c3 : ∀ ob, (w1.alloc ob).cell? ⟨bb, 3, none⟩ = some (.slice none 0 0) := fun ob => ((hB.ext hC1).alloc ob).cell 3))
  obtain ⟨pb, hpb⟩ : ∃ pb, pb = w1.heap.size := ⟨_, rfl⟩
  refine wp_world (fun W => Blk W pb 93 #[.string (prT p).1, .string (prT p).2] ∧ Chg [] w W) ⟨Blk.newEq hpb, hC1.alloc _⟩ (fun Wa hW => ?_)
  rw [← hpb]
  have hwpb : w.heap.size ≤ pb := by have := hC1.size; omega
  clear hpb c3
  obtain ⟨hPb, hCa⟩ := hW
  have hCc := hCa
  obtain ⟨Wc, rfl⟩ : ∃ Wc : World, Wc = Wa := ⟨_, rfl⟩
  have hps := hPb.lt
  have hpx : ∀ j, j < 1 * 2 → Wc.cell? ⟨pb, 0 + j, none⟩ = [Value.string (prT p).1, .string (prT p).2][j]? := fun j _ => by rw [Nat.zero_add, hPb.cell, ← Array.getElem?_toList]
  have c4 : Wc.cell? ⟨bb, 4, none⟩ = some (.pointer (some ⟨mb, 0, none⟩)) := (hB.ext hCc).cell 4
  refine wp_loop_rounds 1 ?_
  rw [rounds_succ]
  have Hpx := Lib.hid hpx
  clear hpx
  go_wp2_with (first
    | (go_at_call 37; refine (mcopy_w mb base v L _ (h.m.ext hCc)).mono ?_; rintro e w2 ⟨mb2, v2, rfl, hmb2, hm2, hC2⟩)
    | (go_at_call 38; refine (bget_none bb mb base tT vk vr (.slice none 0 0) v L _ (prT p).1 (h.ext (hCc.trans hC2)) z0 (Nat.le_trans z1 (by decide)) (fun x hx => hg x hx)).mono ?_; rintro e w3 ⟨rfl, hC3⟩))
  have hCq := hC2.trans hC3
  obtain ⟨wq, rfl⟩ : ∃ wq : World, wq = w3 := ⟨_, rfl⟩
  have hmq := hm2.ext hC3
  have hll := hn
  have Hr0 := Lib.hid (show ∀ W, Chg [] Wc W → W.rangeAt pb (0) [Value.string (prT p).1, .string (prT p).2] from fun W hW j u hj => by
    have hjl := (List.getElem?_eq_some_iff.1 hj).1
    have hjl : j < 2 := by simpa using hjl
    rw [hW.cell hps (by simp), show (0 + j) = 0 + j from rfl, Hpx.out _ (by omega)]
    match j, hj with
    | 0, hj => exact hj
    | 1, hj => exact hj)
  refine wp_loop_rounds 2 ?_
  rw [rounds_succ]
  go_wp2_with (first
    | (refine wpList_load_rng (by rfl) 93 (.tmp 101) rfl pb (0) rfl _ _ (Hr0.out _ hCq) Tryz.underlying93 rfl (by kernel_rfl) ?_)
    | (go_at_call 40; refine (mget_none mb2 Wc.heap.size v2 _ (prT p).1 _ (hmq.ext ((Chg.refl _ _).alloc _)) z0 (Nat.le_trans z1 (by decide)) (fun x hx => hg x hx)).mono ?_; rintro e wg0 ⟨rfl, hCg0⟩))
  have hCC0 : Chg [] Wc wg0 := (hCq.alloc _).trans hCg0
  have hmm0 := (hmq.ext ((Chg.refl _ _).alloc _)).ext hCg0
  rw [rounds_succ]
  go_wp2_with (first
    | (go_at_call 41; refine (mlen_w mb2 Wc.heap.size v2 _ _ hmm0).mono ?_; rintro e w9 ⟨rfl, rfl⟩))
  refine wp_loop_rounds 2 ?_
  rw [rounds_succ]
  go_wp2_with (first
    | (refine wpList_load_rng (by rfl) 93 (.tmp 123) rfl pb (0) rfl _ _ (Hr0.out _ hCC0) Tryz.underlying93 rfl (by kernel_rfl) ?_)
    | (go_at_call 42; refine (mput_w mb2 Wc.heap.size v2 _ (prT p) _ (hmm0.ext ((Chg.refl _ _).alloc _)) z0 (Nat.le_trans z1 (by decide)) (by omega) (fun x hx => hg x hx) (by omega)).mono ?_; rintro e wp0 ⟨vp0, rfl, hmp0, hCp0⟩))
  have hCCp0 : Chg [] Wc wp0 := (hCC0.alloc _).on hCp0 (fun i hi => .inr (by rcases List.mem_cons.1 hi with hi | hi; omega; have := (hmm0.o.lt i (by simpa using hi)).1; omega))
  have hBf := h.b.ext (hCc.trans hCCp0)
  rw [rounds_succ]
  go_wp2_with (first
    | (refine wpList_store_one rfl 89 (.tmp 138) (.tmp 136) rfl bb 4 rfl (.pointer (some ⟨mb2, 0, none⟩)) rfl 91 _ hBf (by simp [baseC]) (by kernel_rfl) rfl ?_; intro wf hCf hsf hBf2))
  go_ret
  exact ⟨mb2, _, vp0, rfl, (h.ext (hCc.trans hCCp0)).put hmp0 hCf hBf2, ((hCc.trans hCCp0).mono (by simp)).trans hCf⟩

set_option maxRecDepth 100000 in
set_option maxHeartbeats 1000000 in
theorem bput_t1 (q : Per) (h : BasS w bb mb base tT vk vr (.slice none 0 0) v L) (hp : p.Ok) (hq : q.Ok) (hqp : (prT q).1 = (prT p).1) (hx : prT q ∈ L) (hu : w.ownsRow Bu 62 5 u 2 (cls (rT p))) (hG : Gv w) (hn : L.length ≤ 800) (hg : ∀ x ∈ rmv (prT q).1 L, x.1 ≠ (prT p).1) :
    Calls Tryz.prog 13 #[.pointer (some ⟨bb, 0, none⟩), u] w fun e w' => ∃ mb' base' v', e = .returned (.int .i64 0) ∧ BasS w' bb mb' base' tT vk vr (.slice none 0 0) v' (ins (prT p) (rmv (prT q).1 L)) ∧ Chg [bb] w w' := by
  obtain ⟨z0, z1, z2⟩ := prT_size hp
  have hul := fun k hk => (hu.lt k hk).2
  have hK1 := h.ks
  have hK2 := h.rs
  have hB := h.b
  have hrow := row_w tT vk vr u (rT p) w (rT_ok hp) hK1 hK2 (Sl.own hu) hul hG (Nat.le_trans z1 (by decide)) (by show (prT p).2.size ≤ 40; omega)
  have Hrow := Lib.hid hrow
  clear hrow
  go_enter Tryz.func13, Tryz.ntmps13
  go_wp2_with (first
    | (go_at_call 34; refine (bnone_w bb mb base tT vk vr (.slice none 0 0) v L _ h).mono ?_; rintro e w9 ⟨rfl, rfl⟩)
    | (refine wpList_load_tb (by rfl) (.tmp 29) rfl bb mb rfl tT vk vr (.slice none 0 0) hB ?_)
    | (go_at_call 11; refine (Hrow.out).mono ?_; rintro e w1 ⟨rfl, hC1⟩; have c3 : ∀ ob, (w1.alloc ob).cell? ⟨bb, 3, none⟩ = some (.slice none 0 0) := fun ob => ((hB.ext hC1).alloc ob).cell 3))
  obtain ⟨pb, hpb⟩ : ∃ pb, pb = w1.heap.size := ⟨_, rfl⟩
  refine wp_world (fun W => Blk W pb 93 #[.string (prT p).1, .string (prT p).2] ∧ Chg [] w W) ⟨Blk.newEq hpb, hC1.alloc _⟩ (fun Wa hW => ?_)
  rw [← hpb]
  have hwpb : w.heap.size ≤ pb := by have := hC1.size; omega
  clear hpb c3
  obtain ⟨hPb, hCa⟩ := hW
  have hCc := hCa
  obtain ⟨Wc, rfl⟩ : ∃ Wc : World, Wc = Wa := ⟨_, rfl⟩
  have hps := hPb.lt
  have hpx : ∀ j, j < 1 * 2 → Wc.cell? ⟨pb, 0 + j, none⟩ = [Value.string (prT p).1, .string (prT p).2][j]? := fun j _ => by rw [Nat.zero_add, hPb.cell, ← Array.getElem?_toList]
  have c4 : Wc.cell? ⟨bb, 4, none⟩ = some (.pointer (some ⟨mb, 0, none⟩)) := (hB.ext hCc).cell 4
  refine wp_loop_rounds 1 ?_
  rw [rounds_succ]
  have Hpx := Lib.hid hpx
  clear hpx
  have hqk : (rkey tT (rT q)) = (prT p).1 := hqp
  have hgs := fun w' h1 h2 h3 => bget_some bb mb base tT vk vr (.slice none 0 0) v L w' (rT q) h1 (rT_ok hq) h2 (hqk ▸ z0) (hqk ▸ (Nat.le_trans z1 (by decide))) h3 hx
  rw [hqk] at hgs
  have Hgs := Lib.hid hgs
  have Hqp := Lib.hid hqp
  clear hgs hqk hqp
  go_wp2_with (first
    | (go_at_call 37; refine (mcopy_w mb base v L _ (h.m.ext hCc)).mono ?_; rintro e w2 ⟨mb2, v2, rfl, hmb2, hm2, hC2⟩)
    | (go_at_call 38; refine (Hgs.out _ (h.ext (hCc.trans hC2)) (hG.chg (hCc.trans hC2) (by simp)) (by have := (prT_size hq).2.2; show (prT q).2.size ≤ 40; omega)).mono ?_; rintro e w3 ⟨vo, rfl, ho3, hC3⟩)
    | (go_at_call 39; refine (btake_t bb mb base vk vr v L Wc q mb2 Wc.heap.size w2.heap.size v2 L _ vo (h.ext hCc) hq (hC2.trans hC3) (hm2.ext hC3) (Nat.le_refl _) hmb2 ho3 (hG.chg hCc (by simp)) hx).mono ?_; rintro e w4 ⟨v4, rfl, hm4, hC4⟩))
  have hCq := hC4
  obtain ⟨wq, rfl⟩ : ∃ wq : World, wq = w4 := ⟨_, rfl⟩
  have hmq := hm4
  have hll : (rmv (prT q).1 L).length ≤ 800 := Nat.le_trans (rmv_len _ _) hn
  have Hr0 := Lib.hid (show ∀ W, Chg [] Wc W → W.rangeAt pb (0) [Value.string (prT p).1, .string (prT p).2] from fun W hW j u hj => by
    have hjl := (List.getElem?_eq_some_iff.1 hj).1
    have hjl : j < 2 := by simpa using hjl
    rw [hW.cell hps (by simp), show (0 + j) = 0 + j from rfl, Hpx.out _ (by omega)]
    match j, hj with
    | 0, hj => exact hj
    | 1, hj => exact hj)
  refine wp_loop_rounds 2 ?_
  rw [rounds_succ]
  go_wp2_with (first
    | (refine wpList_load_rng (by rfl) 93 (.tmp 101) rfl pb (0) rfl _ _ (Hr0.out _ hCq) Tryz.underlying93 rfl (by kernel_rfl) ?_)
    | (go_at_call 40; refine (mget_none mb2 Wc.heap.size v4 _ (prT p).1 _ (hmq.ext ((Chg.refl _ _).alloc _)) z0 (Nat.le_trans z1 (by decide)) (fun x hx => hg x hx)).mono ?_; rintro e wg0 ⟨rfl, hCg0⟩))
  have hCC0 : Chg [] Wc wg0 := (hCq.alloc _).trans hCg0
  have hmm0 := (hmq.ext ((Chg.refl _ _).alloc _)).ext hCg0
  rw [rounds_succ]
  go_wp2_with (first
    | (go_at_call 41; refine (mlen_w mb2 Wc.heap.size v4 _ _ hmm0).mono ?_; rintro e w9 ⟨rfl, rfl⟩))
  refine wp_loop_rounds 2 ?_
  rw [rounds_succ]
  go_wp2_with (first
    | (refine wpList_load_rng (by rfl) 93 (.tmp 123) rfl pb (0) rfl _ _ (Hr0.out _ hCC0) Tryz.underlying93 rfl (by kernel_rfl) ?_)
    | (go_at_call 42; refine (mput_w mb2 Wc.heap.size v4 _ (prT p) _ (hmm0.ext ((Chg.refl _ _).alloc _)) z0 (Nat.le_trans z1 (by decide)) (by omega) (fun x hx => hg x hx) (by omega)).mono ?_; rintro e wp0 ⟨vp0, rfl, hmp0, hCp0⟩))
  have hCCp0 : Chg [] Wc wp0 := (hCC0.alloc _).on hCp0 (fun i hi => .inr (by rcases List.mem_cons.1 hi with hi | hi; omega; have := (hmm0.o.lt i (by simpa using hi)).1; omega))
  have hBf := h.b.ext (hCc.trans hCCp0)
  rw [rounds_succ]
  go_wp2_with (first
    | (refine wpList_store_one rfl 89 (.tmp 138) (.tmp 136) rfl bb 4 rfl (.pointer (some ⟨mb2, 0, none⟩)) rfl 91 _ hBf (by simp [baseC]) (by kernel_rfl) rfl ?_; intro wf hCf hsf hBf2))
  go_ret
  exact ⟨mb2, _, vp0, rfl, (h.ext (hCc.trans hCCp0)).put hmp0 hCf hBf2, ((hCc.trans hCCp0).mono (by simp)).trans hCf⟩

end

end Go.Proofs.YtpcaadipejnllaaGreatDoor

/- A row is put into the base of the people. -/
set_option linter.unusedVariables false
set_option linter.unusedSimpArgs false
namespace Go.Proofs.YtpcaadipejnllaaGreatDoor
open Go.RowKit

section
variable (bb mb base : Nat) (vk vr vx v : Value) (L : List Pr) (cb cc : Nat) (p : Per) (Bu : Nat) (u : Value) (w : World)
set_option maxRecDepth 100000 in
set_option maxHeartbeats 1000000 in
theorem bput_p0 (h : BasS w bb mb base tP vk vr vx v L) (hi : IxS w vx cb cc) (hp : p.Ok) (hu : w.ownsRow Bu 62 5 u 3 (cls (rP p))) (hG : Gv w) (hn : L.length ≤ 800) (hg : ∀ x ∈ L, x.1 ≠ (prP p).1 ∧ x.1 ≠ (prE p).1) :
    Calls Tryz.prog 13 #[.pointer (some ⟨bb, 0, none⟩), u] w fun e w' => ∃ mb' base' v', e = .returned (.int .i64 0) ∧ BasS w' bb mb' base' tP vk vr vx v' (ins (prE p) (ins (prP p) (L))) ∧ Chg [bb] w w' := by
  obtain ⟨z0, z1, z2⟩ := prP_size hp
  obtain ⟨y0, y1, y2⟩ := prE_size hp
  obtain ⟨s, o, c, rfl, hs, _⟩ := hi.at_
  have hul := fun k hk => (hu.lt k hk).2
  have hK1 := h.ks
  have hK2 := h.rs
  have hB := h.b
  have hrow := row_w tP vk vr u (rP p) w (rP_ok hp) hK1 hK2 (Sl.own hu) hul hG (Nat.le_trans z1 (by decide)) (by show (prP p).2.size ≤ 40; omega)
  have Hrow := Lib.hid hrow
  clear hrow
  go_enter Tryz.func13, Tryz.ntmps13
  go_wp2_with (first
    | (go_at_call 34; refine (bnone_w bb mb base tP vk vr (.slice (some ⟨s, o, none⟩) 1 c) v L _ h).mono ?_; rintro e w9 ⟨rfl, rfl⟩)
    | (refine wpList_load_tb (by rfl) (.tmp 29) rfl bb mb rfl tP vk vr (.slice (some ⟨s, o, none⟩) 1 c) hB ?_)
    | (go_at_call 11; refine (Hrow.out).mono ?_; rintro e w1 ⟨rfl, hC1⟩; have c3 : ∀ ob, (w1.alloc ob).cell? ⟨bb, 3, none⟩ = some (.slice (some ⟨s, o, none⟩) 1 c) := fun ob => ((hB.ext hC1).alloc ob).cell 3))
  obtain ⟨pb, hpb⟩ : ∃ pb, pb = w1.heap.size := ⟨_, rfl⟩
  refine wp_world (fun W => Blk W pb 93 #[.string (prP p).1, .string (prP p).2] ∧ Chg [] w W) ⟨Blk.newEq hpb, hC1.alloc _⟩ (fun Wa hW => ?_)
  rw [← hpb]
  have hwpb : w.heap.size ≤ pb := by have := hC1.size; omega
  clear hpb c3
  obtain ⟨hPb, hCa⟩ := hW
  have hra := (hi.ext hCa).rng
  refine wp_loop_rounds 2 ?_
  rw [rounds_succ]
  go_upto_region 10 with (first
    | (refine wpList_load_rng (by rfl) 41 (.tmp 50) rfl s o rfl _ _ hra Tryz.underlying41 rfl (by kernel_rfl) ?_))
  have hA : Chg [] Wa (Wa.alloc (.cells #[.int .i64 3, .slice (some ⟨cb, 0, none⟩) 1 cc, .bool false] 41)) := (Chg.refl _ _).alloc _
  have hBd := (h.ext hCa).ext hA
  have hIx := (hi.ext hCa).ext hA
  have hXb : Blk (Wa.alloc (.cells #[.int .i64 3, .slice (some ⟨cb, 0, none⟩) 1 cc, .bool false] 41)) Wa.heap.size 41 #[.int .i64 3, .slice (some ⟨cb, 0, none⟩) 1 cc, .bool false] := Blk.new _ _ _
  have hU := own_ext (own_ext hu hCa) hA
  have hGv := (hG.chg hCa (by simp)).chg hA (by simp)
  have hPa := hPb.ext hA
  have hSra : ∀ W, Chg [] (Wa.alloc (.cells #[.int .i64 3, .slice (some ⟨cb, 0, none⟩) 1 cc, .bool false] 41)) W → (W.rangeAt bb 0 (tbV tP vk vr).toList ∧ W.rangeAt (Wa.heap.size) 0 [Value.int .i64 3, .slice (some ⟨cb, 0, none⟩) 1 cc, .bool false]) := fun W hW => ⟨base_tb (hBd.b.ext hW), rng3 (hXb.ext hW)⟩
  have hD0 : Chg [] (Wa.alloc (.cells #[.int .i64 3, .slice (some ⟨cb, 0, none⟩) 1 cc, .bool false] 41)) ((Wa.alloc (.cells #[.int .i64 3, .slice (some ⟨cb, 0, none⟩) 1 cc, .bool false] 41)).drew) := (Chg.refl _ _).drew
  refine wp_region_K (S := fun W => W.rangeAt bb 0 (tbV tP vk vr).toList ∧ W.rangeAt (Wa.heap.size) 0 [Value.int .i64 3, .slice (some ⟨cb, 0, none⟩) 1 cc, .bool false]) 99 (by kernel_rfl) (hSra _ hD0) (fun hH => ?_)
  refine wpAnyK_take (i := 0) (v := .pointer (some ⟨bb, 0, none⟩)) rfl (by kernel_rfl) (by kernel_rfl) (by kernel_rfl) (by kernel_rfl) (by decide) (fun _ _ _ h => h) (Or.inl ⟨by rfl, fun w' hw' => by go_simp⟩) hH ?_
  try simp only [List.getElem_toArray, List.getElem_cons_succ, List.getElem_cons_zero, Act.put, List.setIfInBounds_toArray, List.set_cons_zero, List.set_cons_succ]
  refine wpAnyK_take (i := 1) (v := .pointer (some ⟨bb, 0, none⟩)) rfl (by kernel_rfl) (by kernel_rfl) (by kernel_rfl) (by kernel_rfl) (by decide) (fun _ _ _ h => h) (Or.inl ⟨by rfl, fun w' hw' => by go_simp⟩) hH ?_
  try simp only [List.getElem_toArray, List.getElem_cons_succ, List.getElem_cons_zero, Act.put, List.setIfInBounds_toArray, List.set_cons_zero, List.set_cons_succ]
  refine wpAnyK_take (i := 2) (v := .pointer (some ⟨bb, 0, none⟩)) rfl (by kernel_rfl) (by kernel_rfl) (by kernel_rfl) (by kernel_rfl) (by decide) (fun _ _ _ h => h) (Or.inl ⟨by rfl, fun w' hw' => by go_simp⟩) hH ?_
  try simp only [List.getElem_toArray, List.getElem_cons_succ, List.getElem_cons_zero, Act.put, List.setIfInBounds_toArray, List.set_cons_zero, List.set_cons_succ]
  refine wpAnyK_take (i := 3) rfl (by kernel_rfl) (by kernel_rfl) (by kernel_rfl) (by kernel_rfl) (by decide) (fun _ _ _ h => h) (yieldsIf_load_mid (by rfl) _ _ rfl (bb) (0) rfl ((tbV tP vk vr).toList) _ (fun w' hw' => hw'.1) Tryz.underlying37 rfl (by kernel_rfl)) hH ?_
  try simp only [List.getElem_toArray, List.getElem_cons_succ, List.getElem_cons_zero, Act.put, List.setIfInBounds_toArray, List.set_cons_zero, List.set_cons_succ]
  refine wpAnyK_take (i := 4) rfl (by kernel_rfl) (by kernel_rfl) (by kernel_rfl) (by kernel_rfl) (by decide) (fun _ _ _ h => h) (yieldsIf_load_mid (by rfl) _ _ rfl (Wa.heap.size) (0) rfl ([Value.int .i64 3, .slice (some ⟨cb, 0, none⟩) 1 cc, .bool false]) _ (fun w' hw' => hw'.2) Tryz.underlying41 rfl (by kernel_rfl)) hH ?_
  try simp only [List.getElem_toArray, List.getElem_cons_succ, List.getElem_cons_zero, Act.put, List.setIfInBounds_toArray, List.set_cons_zero, List.set_cons_succ]
  refine wpAnyK_take (i := 6) (v := .pointer (some ⟨bb, 0, none⟩)) rfl (by kernel_rfl) (by kernel_rfl) (by kernel_rfl) (by kernel_rfl) (by decide) (fun _ _ _ h => h) (Or.inl ⟨by rfl, fun w' hw' => by go_simp⟩) hH ?_
  try simp only [List.getElem_toArray, List.getElem_cons_succ, List.getElem_cons_zero, Act.put, List.setIfInBounds_toArray, List.set_cons_zero, List.set_cons_succ]
  refine wpAnyK_take (i := 7) (v := .pointer (some ⟨bb, 0, none⟩)) rfl (by kernel_rfl) (by kernel_rfl) (by kernel_rfl) (by kernel_rfl) (by decide) (fun _ _ _ h => h) (Or.inl ⟨by rfl, fun w' hw' => by go_simp⟩) hH ?_
  try simp only [List.getElem_toArray, List.getElem_cons_succ, List.getElem_cons_zero, Act.put, List.setIfInBounds_toArray, List.set_cons_zero, List.set_cons_succ]
  refine wpAnyK_take (i := 8) (v := .pointer (some ⟨bb, 0, none⟩)) rfl (by kernel_rfl) (by kernel_rfl) (by kernel_rfl) (by kernel_rfl) (by decide) (fun _ _ _ h => h) (Or.inl ⟨by rfl, fun w' hw' => by go_simp⟩) hH ?_
  try simp only [List.getElem_toArray, List.getElem_cons_succ, List.getElem_cons_zero, Act.put, List.setIfInBounds_toArray, List.set_cons_zero, List.set_cons_succ]
  refine wpAnyK_take (i := 9) rfl (by kernel_rfl) (by kernel_rfl) (by kernel_rfl) (by kernel_rfl) (by decide) (fun _ _ _ h => h) (yieldsIf_load_mid (by rfl) _ _ rfl (bb) (0) rfl ((tbV tP vk vr).toList) _ (fun w' hw' => hw'.1) Tryz.underlying37 rfl (by kernel_rfl)) hH ?_
  try simp only [List.getElem_toArray, List.getElem_cons_succ, List.getElem_cons_zero, Act.put, List.setIfInBounds_toArray, List.set_cons_zero, List.set_cons_succ]
  refine wpAnyK_take (i := 10) rfl (by kernel_rfl) (by kernel_rfl) (by kernel_rfl) (by kernel_rfl) (by decide) (fun _ _ _ h => h) (yieldsIf_load_mid (by rfl) _ _ rfl (Wa.heap.size) (0) rfl ([Value.int .i64 3, .slice (some ⟨cb, 0, none⟩) 1 cc, .bool false]) _ (fun w' hw' => hw'.2) Tryz.underlying41 rfl (by kernel_rfl)) hH ?_
  try simp only [List.getElem_toArray, List.getElem_cons_succ, List.getElem_cons_zero, Act.put, List.setIfInBounds_toArray, List.set_cons_zero, List.set_cons_succ]
  refine wpAnyK_take (i := 11) (v := u) rfl (by kernel_rfl) (by kernel_rfl) (by kernel_rfl) (by kernel_rfl) (by decide) (fun _ _ _ h => h) (Or.inl ⟨by rfl, fun w' hw' => by go_simp⟩) hH ?_
  try simp only [List.getElem_toArray, List.getElem_cons_succ, List.getElem_cons_zero, Act.put, List.setIfInBounds_toArray, List.set_cons_zero, List.set_cons_succ]
  refine wpAnyK_ready (rs := [5]) (by kernel_rfl) (by simp) ?_
  refine AllReadyK.cons rfl (fun K hK => ?_) AllReadyK.nil
  go_simp
  refine (tableof_w vk vr cb cc _ (hBd.ks.ext hD0) (hBd.rs.ext hD0) (hIx.ext hD0).cell).mono ?_
  rintro e W1 ⟨v1, rfl, hk1, hC1⟩
  have hD1 := hD0.trans hC1
  refine hK.out _ _ (hSra _ hD1) (fun hH => ?_)
  clear hK K
  try simp only [List.getElem_toArray, List.getElem_cons_succ, List.getElem_cons_zero, Act.put, List.setIfInBounds_toArray, List.set_cons_zero, List.set_cons_succ]
  refine wpAnyK_ready (rs := [12]) (by kernel_rfl) (by simp) ?_
  refine AllReadyK.cons rfl (fun K hK => ?_) AllReadyK.nil
  go_simp
  refine (ientry_w tP vk vr _ (.u (p).id) (.t (p).nm) (.i (p).sc) cb cc _ rfl (hBd.ks.ext hD1) (hBd.rs.ext hD1) (Sl.own (own_ext hU hD1)) (hIx.ext hD1).cell).mono ?_
  rintro e W2 ⟨v2, rfl, ho2, hC2⟩
  have hD2 := hD1.trans hC2
  have hv2 := fun k hk => (ho2.lt k hk).2
  refine hK.out _ _ (hSra _ hD2) (fun hH => ?_)
  clear hK K
  try simp only [List.getElem_toArray, List.getElem_cons_succ, List.getElem_cons_zero, Act.put, List.setIfInBounds_toArray, List.set_cons_zero, List.set_cons_succ]
  refine wpAnyK_ready (rs := [13]) (by kernel_rfl) (by simp) ?_
  refine AllReadyK.cons rfl (fun K hK => ?_) AllReadyK.nil
  go_simp
  refine (row_w tE v1 (.slice none 0 0) v2 (rE p) _ (rE_ok hp) (hk1.ext hC2) (.inl ⟨rfl, rfl⟩) (Sl.own ho2) hv2 (hGv.chg hD2 (by simp)) (Nat.le_trans (prE_size hp).2.1 (by decide)) (by have := (prE_size hp).2.2; show (prE _).2.size ≤ 40; omega)).mono ?_
  rintro e W3 ⟨rfl, hC3⟩
  have hD3 := hD2.trans hC3
  refine hK.out _ _ (hSra _ hD3) (fun hH => ?_)
  clear hK K
  try simp only [List.getElem_toArray, List.getElem_cons_succ, List.getElem_cons_zero, Act.put, List.setIfInBounds_toArray, List.set_cons_zero, List.set_cons_succ]
  refine wpAnyK_take (i := 14) (v := .tuple #[.string (rkey tE (rE p)), .string (rval tE (rE p)), .int .i64 0]) rfl (by kernel_rfl) (by kernel_rfl) (by kernel_rfl) (by kernel_rfl) (by decide) (fun _ _ _ h => h) (Or.inl ⟨by rfl, fun w' hw' => by go_simp⟩) hH ?_
  try simp only [List.getElem_toArray, List.getElem_cons_succ, List.getElem_cons_zero, Act.put, List.setIfInBounds_toArray, List.set_cons_zero, List.set_cons_succ]
  refine wpAnyK_take (i := 15) (v := .string (rkey tE (rE p))) rfl (by kernel_rfl) (by kernel_rfl) (by kernel_rfl) (by kernel_rfl) (by decide) (fun _ _ _ h => h) (Or.inl ⟨by rfl, fun w' hw' => by go_simp⟩) hH ?_
  try simp only [List.getElem_toArray, List.getElem_cons_succ, List.getElem_cons_zero, Act.put, List.setIfInBounds_toArray, List.set_cons_zero, List.set_cons_succ]
  refine wpAnyK_take (i := 16) (v := .string (rval tE (rE p))) rfl (by kernel_rfl) (by kernel_rfl) (by kernel_rfl) (by kernel_rfl) (by decide) (fun _ _ _ h => h) (Or.inl ⟨by rfl, fun w' hw' => by go_simp⟩) hH ?_
  try simp only [List.getElem_toArray, List.getElem_cons_succ, List.getElem_cons_zero, Act.put, List.setIfInBounds_toArray, List.set_cons_zero, List.set_cons_succ]
  refine wpAnyK_take (i := 17) (v := .int .i64 0) rfl (by kernel_rfl) (by kernel_rfl) (by kernel_rfl) (by kernel_rfl) (by decide) (fun _ _ _ h => h) (Or.inl ⟨by rfl, fun w' hw' => by go_simp⟩) hH ?_
  try simp only [List.getElem_toArray, List.getElem_cons_succ, List.getElem_cons_zero, Act.put, List.setIfInBounds_toArray, List.set_cons_zero, List.set_cons_succ]
  refine wpAnyK_take (i := 18) (v := .string (rkey tE (rE p))) rfl (by kernel_rfl) (by kernel_rfl) (by kernel_rfl) (by kernel_rfl) (by decide) (fun _ _ _ h => h) (Or.inl ⟨by rfl, fun w' hw' => by go_simp⟩) hH ?_
  try simp only [List.getElem_toArray, List.getElem_cons_succ, List.getElem_cons_zero, Act.put, List.setIfInBounds_toArray, List.set_cons_zero, List.set_cons_succ]
  refine wpAnyK_take (i := 19) (v := .string (rval tE (rE p))) rfl (by kernel_rfl) (by kernel_rfl) (by kernel_rfl) (by kernel_rfl) (by decide) (fun _ _ _ h => h) (Or.inl ⟨by rfl, fun w' hw' => by go_simp⟩) hH ?_
  try simp only [List.getElem_toArray, List.getElem_cons_succ, List.getElem_cons_zero, Act.put, List.setIfInBounds_toArray, List.set_cons_zero, List.set_cons_succ]
  refine wpAnyK_take (i := 20) (v := .int .i64 0) rfl (by kernel_rfl) (by kernel_rfl) (by kernel_rfl) (by kernel_rfl) (by decide) (fun _ _ _ h => h) (Or.inl ⟨by rfl, fun w' hw' => by go_simp⟩) hH ?_
  try simp only [List.getElem_toArray, List.getElem_cons_succ, List.getElem_cons_zero, Act.put, List.setIfInBounds_toArray, List.set_cons_zero, List.set_cons_succ]
  refine wpAnyK_done (by kernel_rfl) ?_ _
  have hCb := hCa.trans (hA.trans hD3)
  have hPo : W3.ownsRow pb 93 2 (.slice (some ⟨pb, 0, none⟩) 1 1) 1 [.string (prP p).1, .string (prP p).2] := ⟨rfl, .inr ⟨pb, 1, _, rfl, Nat.le_refl _, hPa.ext hD3, Nat.le_refl _, by decide, rfl, rfl⟩⟩
  obtain ⟨i0, hi0, hz0, hz1, hz2⟩ := info_parts info93
  go_wp2_with (first
    | (at_builtin; go_loud (refine wpList_append_own _ rfl _ _ 94 rfl pb 93 i0 _ 2 32 Tryz.underlying94 hi0 hz0 hz1 hz2 rfl (by decide) (.slice (some ⟨pb, 0, none⟩) 1 1) 1 [.string (prP p).1, .string (prP p).2] rfl (hPo.alloc _) ⟨W3.heap.size, 0, none⟩ 1 1 [.string (rkey tE (rE p)), .string (rval tE (rE p))] rfl rfl (fun j x hj => by rw [add_mk, Nat.zero_add, (Blk.new W3 93 #[.string (rkey tE (rE p)), .string (rval tE (rE p))]).cell, ← Array.getElem?_toList]; exact hj) (by simp [Value.oneCell']) (by decide) (by decide) (by have := hPo.lt pb rfl; simp; omega) ?_); intro vp Wc hop hgc _))
  have hCc : Chg [] w Wc := (hCb.alloc _).grown hgc (by intro k hk; simp [Value.ownBlock] at hk; omega)
  obtain ⟨ps, po, pc, rfl, hps, hpx⟩ := own_at hop (by decide)
  have hpw : pb ≤ ps := (hop.lt ps rfl).1
  have c4 : Wc.cell? ⟨bb, 4, none⟩ = some (.pointer (some ⟨mb, 0, none⟩)) := (hB.ext hCc).cell 4
  rw [rounds_succ]
  have Hpx := Lib.hid hpx
  clear hpx
  go_wp2_with (first
    | (go_at_call 37; refine (mcopy_w mb base v L _ (h.m.ext hCc)).mono ?_; rintro e w2 ⟨mb2, v2, rfl, hmb2, hm2, hC2⟩)
    | (go_at_call 38; refine (bget_none bb mb base tP vk vr (.slice (some ⟨s, o, none⟩) 1 c) v L _ (prP p).1 (h.ext (hCc.trans hC2)) z0 (Nat.le_trans z1 (by decide)) (fun x hx => (hg x hx).1)).mono ?_; rintro e w3 ⟨rfl, hC3⟩))
  have hCq := hC2.trans hC3
  obtain ⟨wq, rfl⟩ : ∃ wq : World, wq = w3 := ⟨_, rfl⟩
  have hmq := hm2.ext hC3
  have hll := hn
  have Hr0 := Lib.hid (show ∀ W, Chg [] Wc W → W.rangeAt ps (po) [Value.string (prP p).1, .string (prP p).2] from fun W hW j u hj => by
    have hjl := (List.getElem?_eq_some_iff.1 hj).1
    have hjl : j < 2 := by simpa using hjl
    rw [hW.cell hps (by simp), show (po + j) = po + j from rfl, Hpx.out _ (by omega)]
    match j, hj with
    | 0, hj => exact hj
    | 1, hj => exact hj)
  have Hr1 := Lib.hid (show ∀ W, Chg [] Wc W → W.rangeAt ps (po + 2) [Value.string (prE p).1, .string (prE p).2] from fun W hW j u hj => by
    have hjl := (List.getElem?_eq_some_iff.1 hj).1
    have hjl : j < 2 := by simpa using hjl
    rw [hW.cell hps (by simp), Nat.add_assoc, Hpx.out _ (by omega)]
    match j, hj with
    | 0, hj => exact hj
    | 1, hj => exact hj)
  refine wp_loop_rounds 3 ?_
  rw [rounds_succ]
  go_wp2_with (first
    | (refine wpList_load_rng (by rfl) 93 (.tmp 101) rfl ps (po) rfl _ _ (Hr0.out _ hCq) Tryz.underlying93 rfl (by kernel_rfl) ?_)
    | (go_at_call 40; refine (mget_none mb2 Wc.heap.size v2 _ (prP p).1 _ (hmq.ext ((Chg.refl _ _).alloc _)) z0 (Nat.le_trans z1 (by decide)) (fun x hx => (hg x hx).1)).mono ?_; rintro e wg0 ⟨rfl, hCg0⟩))
  have hCC0 : Chg [] Wc wg0 := (hCq.alloc _).trans hCg0
  have hmm0 := (hmq.ext ((Chg.refl _ _).alloc _)).ext hCg0
  rw [rounds_succ]
  go_wp2_with (first
    | (refine wpList_load_rng (by rfl) 93 (.tmp 101) rfl ps (po + 2) rfl _ _ (Hr1.out _ hCC0) Tryz.underlying93 rfl (by kernel_rfl) ?_)
    | (go_at_call 40; refine (mget_none mb2 Wc.heap.size v2 _ (prE p).1 _ (hmm0.ext ((Chg.refl _ _).alloc _)) y0 (Nat.le_trans y1 (by decide)) (fun x hx => (hg x hx).2)).mono ?_; rintro e wg1 ⟨rfl, hCg1⟩))
  have hCC1 : Chg [] Wc wg1 := (hCC0.alloc _).trans hCg1
  have hmm1 := (hmm0.ext ((Chg.refl _ _).alloc _)).ext hCg1
  rw [rounds_succ]
  go_wp2_with (first
    | (go_at_call 41; refine (mlen_w mb2 Wc.heap.size v2 _ _ hmm1).mono ?_; rintro e w9 ⟨rfl, rfl⟩))
  refine wp_loop_rounds 3 ?_
  rw [rounds_succ]
  go_wp2_with (first
    | (refine wpList_load_rng (by rfl) 93 (.tmp 123) rfl ps (po) rfl _ _ (Hr0.out _ hCC1) Tryz.underlying93 rfl (by kernel_rfl) ?_)
    | (go_at_call 42; refine (mput_w mb2 Wc.heap.size v2 _ (prP p) _ (hmm1.ext ((Chg.refl _ _).alloc _)) z0 (Nat.le_trans z1 (by decide)) (by omega) (fun x hx => (hg x hx).1) (by omega)).mono ?_; rintro e wp0 ⟨vp0, rfl, hmp0, hCp0⟩))
  have hCCp0 : Chg [] Wc wp0 := (hCC1.alloc _).on hCp0 (fun i hi => .inr (by rcases List.mem_cons.1 hi with hi | hi; omega; have := (hmm1.o.lt i (by simpa using hi)).1; omega))
  rw [rounds_succ]
  go_wp2_with (first
    | (refine wpList_load_rng (by rfl) 93 (.tmp 123) rfl ps (po + 2) rfl _ _ (Hr1.out _ hCCp0) Tryz.underlying93 rfl (by kernel_rfl) ?_)
    | (go_at_call 42; refine (mput_w mb2 Wc.heap.size vp0 _ (prE p) _ (hmp0.ext ((Chg.refl _ _).alloc _)) y0 (Nat.le_trans y1 (by decide)) (by omega) (fun x hx => by rcases ins_mem _ _ x hx with rfl | hx; exact PE_ne _ _; exact (hg x hx).2) (by have := (ins_len (prP p) (L)).2; omega)).mono ?_; rintro e wp1 ⟨vp1, rfl, hmp1, hCp1⟩))
  have hCCp1 : Chg [] Wc wp1 := (hCCp0.alloc _).on hCp1 (fun i hi => .inr (by rcases List.mem_cons.1 hi with hi | hi; omega; have := (hmp0.o.lt i (by simpa using hi)).1; omega))
  have hBf := h.b.ext (hCc.trans hCCp1)
  rw [rounds_succ]
  go_wp2_with (first
    | (refine wpList_store_one rfl 89 (.tmp 138) (.tmp 136) rfl bb 4 rfl (.pointer (some ⟨mb2, 0, none⟩)) rfl 91 _ hBf (by simp [baseC]) (by kernel_rfl) rfl ?_; intro wf hCf hsf hBf2))
  go_ret
  exact ⟨mb2, _, vp1, rfl, (h.ext (hCc.trans hCCp1)).put hmp1 hCf hBf2, ((hCc.trans hCCp1).mono (by simp)).trans hCf⟩

set_option maxRecDepth 100000 in
set_option maxHeartbeats 1000000 in
theorem bput_p1 (q : Per) (h : BasS w bb mb base tP vk vr vx v L) (hi : IxS w vx cb cc) (hp : p.Ok) (hq : q.Ok) (hqp : (prP q).1 = (prP p).1) (hx : prP q ∈ L) (hx2 : prE q ∈ L) (hu : w.ownsRow Bu 62 5 u 3 (cls (rP p))) (hG : Gv w) (hn : L.length ≤ 800) (hg : ∀ x ∈ rmv (prE q).1 (rmv (prP q).1 L), x.1 ≠ (prP p).1 ∧ x.1 ≠ (prE p).1) :
    Calls Tryz.prog 13 #[.pointer (some ⟨bb, 0, none⟩), u] w fun e w' => ∃ mb' base' v', e = .returned (.int .i64 0) ∧ BasS w' bb mb' base' tP vk vr vx v' (ins (prE p) (ins (prP p) (rmv (prE q).1 (rmv (prP q).1 L)))) ∧ Chg [bb] w w' := by
  obtain ⟨z0, z1, z2⟩ := prP_size hp
  obtain ⟨y0, y1, y2⟩ := prE_size hp
  obtain ⟨s, o, c, rfl, hs, _⟩ := hi.at_
  have hul := fun k hk => (hu.lt k hk).2
  have hK1 := h.ks
  have hK2 := h.rs
  have hB := h.b
  have hrow := row_w tP vk vr u (rP p) w (rP_ok hp) hK1 hK2 (Sl.own hu) hul hG (Nat.le_trans z1 (by decide)) (by show (prP p).2.size ≤ 40; omega)
  have Hrow := Lib.hid hrow
  clear hrow
  go_enter Tryz.func13, Tryz.ntmps13
  go_wp2_with (first
    | (go_at_call 34; refine (bnone_w bb mb base tP vk vr (.slice (some ⟨s, o, none⟩) 1 c) v L _ h).mono ?_; rintro e w9 ⟨rfl, rfl⟩)
    | (refine wpList_load_tb (by rfl) (.tmp 29) rfl bb mb rfl tP vk vr (.slice (some ⟨s, o, none⟩) 1 c) hB ?_)
    | (go_at_call 11; refine (Hrow.out).mono ?_; rintro e w1 ⟨rfl, hC1⟩; have c3 : ∀ ob, (w1.alloc ob).cell? ⟨bb, 3, none⟩ = some (.slice (some ⟨s, o, none⟩) 1 c) := fun ob => ((hB.ext hC1).alloc ob).cell 3))
  obtain ⟨pb, hpb⟩ : ∃ pb, pb = w1.heap.size := ⟨_, rfl⟩
  refine wp_world (fun W => Blk W pb 93 #[.string (prP p).1, .string (prP p).2] ∧ Chg [] w W) ⟨Blk.newEq hpb, hC1.alloc _⟩ (fun Wa hW => ?_)
  rw [← hpb]
  have hwpb : w.heap.size ≤ pb := by have := hC1.size; omega
  clear hpb c3
  obtain ⟨hPb, hCa⟩ := hW
  have hra := (hi.ext hCa).rng
  refine wp_loop_rounds 2 ?_
  rw [rounds_succ]
  go_upto_region 10 with (first
    | (refine wpList_load_rng (by rfl) 41 (.tmp 50) rfl s o rfl _ _ hra Tryz.underlying41 rfl (by kernel_rfl) ?_))
  have hA : Chg [] Wa (Wa.alloc (.cells #[.int .i64 3, .slice (some ⟨cb, 0, none⟩) 1 cc, .bool false] 41)) := (Chg.refl _ _).alloc _
  have hBd := (h.ext hCa).ext hA
  have hIx := (hi.ext hCa).ext hA
  have hXb : Blk (Wa.alloc (.cells #[.int .i64 3, .slice (some ⟨cb, 0, none⟩) 1 cc, .bool false] 41)) Wa.heap.size 41 #[.int .i64 3, .slice (some ⟨cb, 0, none⟩) 1 cc, .bool false] := Blk.new _ _ _
  have hU := own_ext (own_ext hu hCa) hA
  have hGv := (hG.chg hCa (by simp)).chg hA (by simp)
  have hPa := hPb.ext hA
  have hSra : ∀ W, Chg [] (Wa.alloc (.cells #[.int .i64 3, .slice (some ⟨cb, 0, none⟩) 1 cc, .bool false] 41)) W → (W.rangeAt bb 0 (tbV tP vk vr).toList ∧ W.rangeAt (Wa.heap.size) 0 [Value.int .i64 3, .slice (some ⟨cb, 0, none⟩) 1 cc, .bool false]) := fun W hW => ⟨base_tb (hBd.b.ext hW), rng3 (hXb.ext hW)⟩
  have hD0 : Chg [] (Wa.alloc (.cells #[.int .i64 3, .slice (some ⟨cb, 0, none⟩) 1 cc, .bool false] 41)) ((Wa.alloc (.cells #[.int .i64 3, .slice (some ⟨cb, 0, none⟩) 1 cc, .bool false] 41)).drew) := (Chg.refl _ _).drew
  refine wp_region_K (S := fun W => W.rangeAt bb 0 (tbV tP vk vr).toList ∧ W.rangeAt (Wa.heap.size) 0 [Value.int .i64 3, .slice (some ⟨cb, 0, none⟩) 1 cc, .bool false]) 99 (by kernel_rfl) (hSra _ hD0) (fun hH => ?_)
  refine wpAnyK_take (i := 0) (v := .pointer (some ⟨bb, 0, none⟩)) rfl (by kernel_rfl) (by kernel_rfl) (by kernel_rfl) (by kernel_rfl) (by decide) (fun _ _ _ h => h) (Or.inl ⟨by rfl, fun w' hw' => by go_simp⟩) hH ?_
  try simp only [List.getElem_toArray, List.getElem_cons_succ, List.getElem_cons_zero, Act.put, List.setIfInBounds_toArray, List.set_cons_zero, List.set_cons_succ]
  refine wpAnyK_take (i := 1) (v := .pointer (some ⟨bb, 0, none⟩)) rfl (by kernel_rfl) (by kernel_rfl) (by kernel_rfl) (by kernel_rfl) (by decide) (fun _ _ _ h => h) (Or.inl ⟨by rfl, fun w' hw' => by go_simp⟩) hH ?_
  try simp only [List.getElem_toArray, List.getElem_cons_succ, List.getElem_cons_zero, Act.put, List.setIfInBounds_toArray, List.set_cons_zero, List.set_cons_succ]
  refine wpAnyK_take (i := 2) (v := .pointer (some ⟨bb, 0, none⟩)) rfl (by kernel_rfl) (by kernel_rfl) (by kernel_rfl) (by kernel_rfl) (by decide) (fun _ _ _ h => h) (Or.inl ⟨by rfl, fun w' hw' => by go_simp⟩) hH ?_
  try simp only [List.getElem_toArray, List.getElem_cons_succ, List.getElem_cons_zero, Act.put, List.setIfInBounds_toArray, List.set_cons_zero, List.set_cons_succ]
  refine wpAnyK_take (i := 3) rfl (by kernel_rfl) (by kernel_rfl) (by kernel_rfl) (by kernel_rfl) (by decide) (fun _ _ _ h => h) (yieldsIf_load_mid (by rfl) _ _ rfl (bb) (0) rfl ((tbV tP vk vr).toList) _ (fun w' hw' => hw'.1) Tryz.underlying37 rfl (by kernel_rfl)) hH ?_
  try simp only [List.getElem_toArray, List.getElem_cons_succ, List.getElem_cons_zero, Act.put, List.setIfInBounds_toArray, List.set_cons_zero, List.set_cons_succ]
  refine wpAnyK_take (i := 4) rfl (by kernel_rfl) (by kernel_rfl) (by kernel_rfl) (by kernel_rfl) (by decide) (fun _ _ _ h => h) (yieldsIf_load_mid (by rfl) _ _ rfl (Wa.heap.size) (0) rfl ([Value.int .i64 3, .slice (some ⟨cb, 0, none⟩) 1 cc, .bool false]) _ (fun w' hw' => hw'.2) Tryz.underlying41 rfl (by kernel_rfl)) hH ?_
  try simp only [List.getElem_toArray, List.getElem_cons_succ, List.getElem_cons_zero, Act.put, List.setIfInBounds_toArray, List.set_cons_zero, List.set_cons_succ]
  refine wpAnyK_take (i := 6) (v := .pointer (some ⟨bb, 0, none⟩)) rfl (by kernel_rfl) (by kernel_rfl) (by kernel_rfl) (by kernel_rfl) (by decide) (fun _ _ _ h => h) (Or.inl ⟨by rfl, fun w' hw' => by go_simp⟩) hH ?_
  try simp only [List.getElem_toArray, List.getElem_cons_succ, List.getElem_cons_zero, Act.put, List.setIfInBounds_toArray, List.set_cons_zero, List.set_cons_succ]
  refine wpAnyK_take (i := 7) (v := .pointer (some ⟨bb, 0, none⟩)) rfl (by kernel_rfl) (by kernel_rfl) (by kernel_rfl) (by kernel_rfl) (by decide) (fun _ _ _ h => h) (Or.inl ⟨by rfl, fun w' hw' => by go_simp⟩) hH ?_
  try simp only [List.getElem_toArray, List.getElem_cons_succ, List.getElem_cons_zero, Act.put, List.setIfInBounds_toArray, List.set_cons_zero, List.set_cons_succ]
  refine wpAnyK_take (i := 8) (v := .pointer (some ⟨bb, 0, none⟩)) rfl (by kernel_rfl) (by kernel_rfl) (by kernel_rfl) (by kernel_rfl) (by decide) (fun _ _ _ h => h) (Or.inl ⟨by rfl, fun w' hw' => by go_simp⟩) hH ?_
  try simp only [List.getElem_toArray, List.getElem_cons_succ, List.getElem_cons_zero, Act.put, List.setIfInBounds_toArray, List.set_cons_zero, List.set_cons_succ]
  refine wpAnyK_take (i := 9) rfl (by kernel_rfl) (by kernel_rfl) (by kernel_rfl) (by kernel_rfl) (by decide) (fun _ _ _ h => h) (yieldsIf_load_mid (by rfl) _ _ rfl (bb) (0) rfl ((tbV tP vk vr).toList) _ (fun w' hw' => hw'.1) Tryz.underlying37 rfl (by kernel_rfl)) hH ?_
  try simp only [List.getElem_toArray, List.getElem_cons_succ, List.getElem_cons_zero, Act.put, List.setIfInBounds_toArray, List.set_cons_zero, List.set_cons_succ]
  refine wpAnyK_take (i := 10) rfl (by kernel_rfl) (by kernel_rfl) (by kernel_rfl) (by kernel_rfl) (by decide) (fun _ _ _ h => h) (yieldsIf_load_mid (by rfl) _ _ rfl (Wa.heap.size) (0) rfl ([Value.int .i64 3, .slice (some ⟨cb, 0, none⟩) 1 cc, .bool false]) _ (fun w' hw' => hw'.2) Tryz.underlying41 rfl (by kernel_rfl)) hH ?_
  try simp only [List.getElem_toArray, List.getElem_cons_succ, List.getElem_cons_zero, Act.put, List.setIfInBounds_toArray, List.set_cons_zero, List.set_cons_succ]
  refine wpAnyK_take (i := 11) (v := u) rfl (by kernel_rfl) (by kernel_rfl) (by kernel_rfl) (by kernel_rfl) (by decide) (fun _ _ _ h => h) (Or.inl ⟨by rfl, fun w' hw' => by go_simp⟩) hH ?_
  try simp only [List.getElem_toArray, List.getElem_cons_succ, List.getElem_cons_zero, Act.put, List.setIfInBounds_toArray, List.set_cons_zero, List.set_cons_succ]
  refine wpAnyK_ready (rs := [5]) (by kernel_rfl) (by simp) ?_
  refine AllReadyK.cons rfl (fun K hK => ?_) AllReadyK.nil
  go_simp
  refine (tableof_w vk vr cb cc _ (hBd.ks.ext hD0) (hBd.rs.ext hD0) (hIx.ext hD0).cell).mono ?_
  rintro e W1 ⟨v1, rfl, hk1, hC1⟩
  have hD1 := hD0.trans hC1
  refine hK.out _ _ (hSra _ hD1) (fun hH => ?_)
  clear hK K
  try simp only [List.getElem_toArray, List.getElem_cons_succ, List.getElem_cons_zero, Act.put, List.setIfInBounds_toArray, List.set_cons_zero, List.set_cons_succ]
  refine wpAnyK_ready (rs := [12]) (by kernel_rfl) (by simp) ?_
  refine AllReadyK.cons rfl (fun K hK => ?_) AllReadyK.nil
  go_simp
  refine (ientry_w tP vk vr _ (.u (p).id) (.t (p).nm) (.i (p).sc) cb cc _ rfl (hBd.ks.ext hD1) (hBd.rs.ext hD1) (Sl.own (own_ext hU hD1)) (hIx.ext hD1).cell).mono ?_
  rintro e W2 ⟨v2, rfl, ho2, hC2⟩
  have hD2 := hD1.trans hC2
  have hv2 := fun k hk => (ho2.lt k hk).2
  refine hK.out _ _ (hSra _ hD2) (fun hH => ?_)
  clear hK K
  try simp only [List.getElem_toArray, List.getElem_cons_succ, List.getElem_cons_zero, Act.put, List.setIfInBounds_toArray, List.set_cons_zero, List.set_cons_succ]
  refine wpAnyK_ready (rs := [13]) (by kernel_rfl) (by simp) ?_
  refine AllReadyK.cons rfl (fun K hK => ?_) AllReadyK.nil
  go_simp
  refine (row_w tE v1 (.slice none 0 0) v2 (rE p) _ (rE_ok hp) (hk1.ext hC2) (.inl ⟨rfl, rfl⟩) (Sl.own ho2) hv2 (hGv.chg hD2 (by simp)) (Nat.le_trans (prE_size hp).2.1 (by decide)) (by have := (prE_size hp).2.2; show (prE _).2.size ≤ 40; omega)).mono ?_
  rintro e W3 ⟨rfl, hC3⟩
  have hD3 := hD2.trans hC3
  refine hK.out _ _ (hSra _ hD3) (fun hH => ?_)
  clear hK K
  try simp only [List.getElem_toArray, List.getElem_cons_succ, List.getElem_cons_zero, Act.put, List.setIfInBounds_toArray, List.set_cons_zero, List.set_cons_succ]
  refine wpAnyK_take (i := 14) (v := .tuple #[.string (rkey tE (rE p)), .string (rval tE (rE p)), .int .i64 0]) rfl (by kernel_rfl) (by kernel_rfl) (by kernel_rfl) (by kernel_rfl) (by decide) (fun _ _ _ h => h) (Or.inl ⟨by rfl, fun w' hw' => by go_simp⟩) hH ?_
  try simp only [List.getElem_toArray, List.getElem_cons_succ, List.getElem_cons_zero, Act.put, List.setIfInBounds_toArray, List.set_cons_zero, List.set_cons_succ]
  refine wpAnyK_take (i := 15) (v := .string (rkey tE (rE p))) rfl (by kernel_rfl) (by kernel_rfl) (by kernel_rfl) (by kernel_rfl) (by decide) (fun _ _ _ h => h) (Or.inl ⟨by rfl, fun w' hw' => by go_simp⟩) hH ?_
  try simp only [List.getElem_toArray, List.getElem_cons_succ, List.getElem_cons_zero, Act.put, List.setIfInBounds_toArray, List.set_cons_zero, List.set_cons_succ]
  refine wpAnyK_take (i := 16) (v := .string (rval tE (rE p))) rfl (by kernel_rfl) (by kernel_rfl) (by kernel_rfl) (by kernel_rfl) (by decide) (fun _ _ _ h => h) (Or.inl ⟨by rfl, fun w' hw' => by go_simp⟩) hH ?_
  try simp only [List.getElem_toArray, List.getElem_cons_succ, List.getElem_cons_zero, Act.put, List.setIfInBounds_toArray, List.set_cons_zero, List.set_cons_succ]
  refine wpAnyK_take (i := 17) (v := .int .i64 0) rfl (by kernel_rfl) (by kernel_rfl) (by kernel_rfl) (by kernel_rfl) (by decide) (fun _ _ _ h => h) (Or.inl ⟨by rfl, fun w' hw' => by go_simp⟩) hH ?_
  try simp only [List.getElem_toArray, List.getElem_cons_succ, List.getElem_cons_zero, Act.put, List.setIfInBounds_toArray, List.set_cons_zero, List.set_cons_succ]
  refine wpAnyK_take (i := 18) (v := .string (rkey tE (rE p))) rfl (by kernel_rfl) (by kernel_rfl) (by kernel_rfl) (by kernel_rfl) (by decide) (fun _ _ _ h => h) (Or.inl ⟨by rfl, fun w' hw' => by go_simp⟩) hH ?_
  try simp only [List.getElem_toArray, List.getElem_cons_succ, List.getElem_cons_zero, Act.put, List.setIfInBounds_toArray, List.set_cons_zero, List.set_cons_succ]
  refine wpAnyK_take (i := 19) (v := .string (rval tE (rE p))) rfl (by kernel_rfl) (by kernel_rfl) (by kernel_rfl) (by kernel_rfl) (by decide) (fun _ _ _ h => h) (Or.inl ⟨by rfl, fun w' hw' => by go_simp⟩) hH ?_
  try simp only [List.getElem_toArray, List.getElem_cons_succ, List.getElem_cons_zero, Act.put, List.setIfInBounds_toArray, List.set_cons_zero, List.set_cons_succ]
  refine wpAnyK_take (i := 20) (v := .int .i64 0) rfl (by kernel_rfl) (by kernel_rfl) (by kernel_rfl) (by kernel_rfl) (by decide) (fun _ _ _ h => h) (Or.inl ⟨by rfl, fun w' hw' => by go_simp⟩) hH ?_
  try simp only [List.getElem_toArray, List.getElem_cons_succ, List.getElem_cons_zero, Act.put, List.setIfInBounds_toArray, List.set_cons_zero, List.set_cons_succ]
  refine wpAnyK_done (by kernel_rfl) ?_ _
  have hCb := hCa.trans (hA.trans hD3)
  have hPo : W3.ownsRow pb 93 2 (.slice (some ⟨pb, 0, none⟩) 1 1) 1 [.string (prP p).1, .string (prP p).2] := ⟨rfl, .inr ⟨pb, 1, _, rfl, Nat.le_refl _, hPa.ext hD3, Nat.le_refl _, by decide, rfl, rfl⟩⟩
  obtain ⟨i0, hi0, hz0, hz1, hz2⟩ := info_parts info93
  go_wp2_with (first
    | (at_builtin; go_loud (refine wpList_append_own _ rfl _ _ 94 rfl pb 93 i0 _ 2 32 Tryz.underlying94 hi0 hz0 hz1 hz2 rfl (by decide) (.slice (some ⟨pb, 0, none⟩) 1 1) 1 [.string (prP p).1, .string (prP p).2] rfl (hPo.alloc _) ⟨W3.heap.size, 0, none⟩ 1 1 [.string (rkey tE (rE p)), .string (rval tE (rE p))] rfl rfl (fun j x hj => by rw [add_mk, Nat.zero_add, (Blk.new W3 93 #[.string (rkey tE (rE p)), .string (rval tE (rE p))]).cell, ← Array.getElem?_toList]; exact hj) (by simp [Value.oneCell']) (by decide) (by decide) (by have := hPo.lt pb rfl; simp; omega) ?_); intro vp Wc hop hgc _))
  have hCc : Chg [] w Wc := (hCb.alloc _).grown hgc (by intro k hk; simp [Value.ownBlock] at hk; omega)
  obtain ⟨ps, po, pc, rfl, hps, hpx⟩ := own_at hop (by decide)
  have hpw : pb ≤ ps := (hop.lt ps rfl).1
  have c4 : Wc.cell? ⟨bb, 4, none⟩ = some (.pointer (some ⟨mb, 0, none⟩)) := (hB.ext hCc).cell 4
  rw [rounds_succ]
  have Hpx := Lib.hid hpx
  clear hpx
  have hqk : (rkey tP (rP q)) = (prP p).1 := hqp
  have hgs := fun w' h1 h2 h3 => bget_some bb mb base tP vk vr (.slice (some ⟨s, o, none⟩) 1 c) v L w' (rP q) h1 (rP_ok hq) h2 (hqk ▸ z0) (hqk ▸ (Nat.le_trans z1 (by decide))) h3 hx
  rw [hqk] at hgs
  have Hgs := Lib.hid hgs
  have Hqp := Lib.hid hqp
  clear hgs hqk hqp
  go_wp2_with (first
    | (go_at_call 37; refine (mcopy_w mb base v L _ (h.m.ext hCc)).mono ?_; rintro e w2 ⟨mb2, v2, rfl, hmb2, hm2, hC2⟩)
    | (go_at_call 38; refine (Hgs.out _ (h.ext (hCc.trans hC2)) (hG.chg (hCc.trans hC2) (by simp)) (by have := (prP_size hq).2.2; show (prP q).2.size ≤ 40; omega)).mono ?_; rintro e w3 ⟨vo, rfl, ho3, hC3⟩)
    | (go_at_call 39; refine (btake_p bb mb base vk vr (.slice (some ⟨s, o, none⟩) 1 c) v L cb cc Wc q mb2 Wc.heap.size w2.heap.size v2 L _ vo (h.ext hCc) (hi.ext hCc) hq (hC2.trans hC3) (hm2.ext hC3) (Nat.le_refl _) hmb2 ho3 (hG.chg hCc (by simp)) hx hx2).mono ?_; rintro e w4 ⟨v4, rfl, hm4, hC4⟩))
  have hCq := hC4
  obtain ⟨wq, rfl⟩ : ∃ wq : World, wq = w4 := ⟨_, rfl⟩
  have hmq := hm4
  have hll : (rmv (prE q).1 (rmv (prP q).1 L)).length ≤ 800 := Nat.le_trans (Nat.le_trans (rmv_len _ _) (rmv_len _ _)) hn
  have Hr0 := Lib.hid (show ∀ W, Chg [] Wc W → W.rangeAt ps (po) [Value.string (prP p).1, .string (prP p).2] from fun W hW j u hj => by
    have hjl := (List.getElem?_eq_some_iff.1 hj).1
    have hjl : j < 2 := by simpa using hjl
    rw [hW.cell hps (by simp), show (po + j) = po + j from rfl, Hpx.out _ (by omega)]
    match j, hj with
    | 0, hj => exact hj
    | 1, hj => exact hj)
  have Hr1 := Lib.hid (show ∀ W, Chg [] Wc W → W.rangeAt ps (po + 2) [Value.string (prE p).1, .string (prE p).2] from fun W hW j u hj => by
    have hjl := (List.getElem?_eq_some_iff.1 hj).1
    have hjl : j < 2 := by simpa using hjl
    rw [hW.cell hps (by simp), Nat.add_assoc, Hpx.out _ (by omega)]
    match j, hj with
    | 0, hj => exact hj
    | 1, hj => exact hj)
  refine wp_loop_rounds 3 ?_
  rw [rounds_succ]
  go_wp2_with (first
    | (refine wpList_load_rng (by rfl) 93 (.tmp 101) rfl ps (po) rfl _ _ (Hr0.out _ hCq) Tryz.underlying93 rfl (by kernel_rfl) ?_)
    | (go_at_call 40; refine (mget_none mb2 Wc.heap.size v4 _ (prP p).1 _ (hmq.ext ((Chg.refl _ _).alloc _)) z0 (Nat.le_trans z1 (by decide)) (fun x hx => (hg x hx).1)).mono ?_; rintro e wg0 ⟨rfl, hCg0⟩))
  have hCC0 : Chg [] Wc wg0 := (hCq.alloc _).trans hCg0
  have hmm0 := (hmq.ext ((Chg.refl _ _).alloc _)).ext hCg0
  rw [rounds_succ]
  go_wp2_with (first
    | (refine wpList_load_rng (by rfl) 93 (.tmp 101) rfl ps (po + 2) rfl _ _ (Hr1.out _ hCC0) Tryz.underlying93 rfl (by kernel_rfl) ?_)
    | (go_at_call 40; refine (mget_none mb2 Wc.heap.size v4 _ (prE p).1 _ (hmm0.ext ((Chg.refl _ _).alloc _)) y0 (Nat.le_trans y1 (by decide)) (fun x hx => (hg x hx).2)).mono ?_; rintro e wg1 ⟨rfl, hCg1⟩))
  have hCC1 : Chg [] Wc wg1 := (hCC0.alloc _).trans hCg1
  have hmm1 := (hmm0.ext ((Chg.refl _ _).alloc _)).ext hCg1
  rw [rounds_succ]
  go_wp2_with (first
    | (go_at_call 41; refine (mlen_w mb2 Wc.heap.size v4 _ _ hmm1).mono ?_; rintro e w9 ⟨rfl, rfl⟩))
  refine wp_loop_rounds 3 ?_
  rw [rounds_succ]
  go_wp2_with (first
    | (refine wpList_load_rng (by rfl) 93 (.tmp 123) rfl ps (po) rfl _ _ (Hr0.out _ hCC1) Tryz.underlying93 rfl (by kernel_rfl) ?_)
    | (go_at_call 42; refine (mput_w mb2 Wc.heap.size v4 _ (prP p) _ (hmm1.ext ((Chg.refl _ _).alloc _)) z0 (Nat.le_trans z1 (by decide)) (by omega) (fun x hx => (hg x hx).1) (by omega)).mono ?_; rintro e wp0 ⟨vp0, rfl, hmp0, hCp0⟩))
  have hCCp0 : Chg [] Wc wp0 := (hCC1.alloc _).on hCp0 (fun i hi => .inr (by rcases List.mem_cons.1 hi with hi | hi; omega; have := (hmm1.o.lt i (by simpa using hi)).1; omega))
  rw [rounds_succ]
  go_wp2_with (first
    | (refine wpList_load_rng (by rfl) 93 (.tmp 123) rfl ps (po + 2) rfl _ _ (Hr1.out _ hCCp0) Tryz.underlying93 rfl (by kernel_rfl) ?_)
    | (go_at_call 42; refine (mput_w mb2 Wc.heap.size vp0 _ (prE p) _ (hmp0.ext ((Chg.refl _ _).alloc _)) y0 (Nat.le_trans y1 (by decide)) (by omega) (fun x hx => by rcases ins_mem _ _ x hx with rfl | hx; exact PE_ne _ _; exact (hg x hx).2) (by have := (ins_len (prP p) (rmv (prE q).1 (rmv (prP q).1 L))).2; omega)).mono ?_; rintro e wp1 ⟨vp1, rfl, hmp1, hCp1⟩))
  have hCCp1 : Chg [] Wc wp1 := (hCCp0.alloc _).on hCp1 (fun i hi => .inr (by rcases List.mem_cons.1 hi with hi | hi; omega; have := (hmp0.o.lt i (by simpa using hi)).1; omega))
  have hBf := h.b.ext (hCc.trans hCCp1)
  rw [rounds_succ]
  go_wp2_with (first
    | (refine wpList_store_one rfl 89 (.tmp 138) (.tmp 136) rfl bb 4 rfl (.pointer (some ⟨mb2, 0, none⟩)) rfl 91 _ hBf (by simp [baseC]) (by kernel_rfl) rfl ?_; intro wf hCf hsf hBf2))
  go_ret
  exact ⟨mb2, _, vp1, rfl, (h.ext (hCc.trans hCCp1)).put hmp1 hCf hBf2, ((hCc.trans hCCp1).mono (by simp)).trans hCf⟩

end

end Go.Proofs.YtpcaadipejnllaaGreatDoor
