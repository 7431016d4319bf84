/- The base of the people is made. -/
import Derived.Test.YtpcaadipejnllaaGreatDoorPart22
import Derived.Test.YtpcaadipejnllaaGreatDoorPart12
import Derived.Test.YtpcaadipejnllaaGreatDoorPart21
import Derived.Test.YtpcaadipejnllaaGreatDoorPart17
import Derived.Test.YtpcaadipejnllaaGreatDoorPart13
import Derived.Test.YtpcaadipejnllaaGreatDoorPart18
import Derived.Test.YtpcaadipejnllaaGreatDoorPart20

set_option linter.unusedVariables false
set_option linter.unusedSimpArgs false
namespace Go.Proofs.YtpcaadipejnllaaGreatDoor
open Go.RowKit

theorem BasS.setx {w w' : World} {bb mb base : Nat} {t : Tb} {vk vr vx vx' v : Value} {L : List Pr} (h : BasS w bb mb base t vk vr vx v L) (hC : Chg [bb] w w') (hB : Blk w' bb 91 (baseC t vk vr vx' mb)) : BasS w' bb mb base t vk vr vx' v L := by
  obtain ⟨a1, ⟨B2, a2⟩, ⟨B3, a3⟩, a4, a5, a6⟩ := h
  exact ⟨hB, ⟨B2, own_chg a2 hC (fun k hk hm => own_ne a2 a1 (by decide) hk (by simpa using hm))⟩, ⟨B3, own_chg a3 hC (fun k hk hm => own_ne a3 a1 (by decide) hk (by simpa using hm))⟩, a4.chg hC (fun e => a4.b.ne_ a1 (by decide) (by simpa using e)) (fun k hk e => own_ne a4.o a1 (by decide) hk (by simpa using e)), a5, a6⟩
theorem info41 : (Tryz.prog.info? 41).map (fun i => (i.zero, i.size, i.bytes)) = some (some (.agg #[.int .i64 0, .slice none 0 0, .bool false]), 3, 40) := by kernel_rfl

set_option maxRecDepth 100000 in
set_option maxHeartbeats 4000000 in
theorem made_p (vk vr : Value) (lb cb : Nat) (w : World) (hK1 : KS w vk tP.k) (hK2 : KS w vr tP.r) (hL : Blk w lb 41 #[.int .i64 3, .slice (some ⟨cb, 0, none⟩) 1 1, .bool false]) (hcb : w.cell? ⟨cb, 0, none⟩ = some (.int .i64 2)) :
    Calls Tryz.prog 27 #[.agg (tbV tP vk vr), .slice (some ⟨lb, 0, none⟩) 1 1] w fun e w' => ∃ bb mb v1 v2 vx cb' cc, e = .returned (.tuple #[.pointer (some ⟨bb, 0, none⟩), .int .i64 0]) ∧ w.heap.size ≤ bb ∧ BasS w' bb mb 0 tP v1 v2 vx (.slice none 0 0) [] ∧ IxS w' vx cb' cc ∧ Chg [] w w' := by
  have hmm := @run_makeMap Tryz.prog
  obtain ⟨B0, hB0⟩ : ∃ B, B = w.heap.size := ⟨_, rfl⟩
  have hBa : Blk (w.alloc (.cells (tbV tP vk vr) 37)) w.heap.size 37 (tbV tP vk vr) := Blk.new _ _ _
  have hCa : Chg [] w (w.alloc (.cells (tbV tP vk vr) 37)) := (Chg.refl _ _).alloc _
  go_enter Tryz.func27, Tryz.ntmps27
  go_upto_region 3 with (first
    | (refine wpList_load_row rfl 37 (.tmp 2) rfl w.heap.size rfl 37 _ (0, 0) _ hBa Tryz.underlying37 rfl (by kernel_rfl) ?_)
    | (go_at_call 28; refine (valid_t tP _ _ _ tP_ok (hK1.ext hCa) (hK2.ext hCa)).mono ?_; rintro e Wa ⟨rfl, hC1⟩))
  have hCw := hCa.trans hC1
  rw [← hB0]
  rw [← hB0] at hBa
  have hK1 := hK1.ext hCw
  have hK2 := hK2.ext hCw
  have hwa := hCw.size
  clear hB0
  have hBw := hBa.ext hC1
  have hSr : ∀ W, Chg [] Wa W → W.rangeAt B0 0 (tbV tP vk vr).toList := fun W hW => rng3 ((hBa.ext hC1).ext hW)
  obtain ⟨A1, c1, rfl, hc1, hm1⟩ := hK1.form
  obtain ⟨A2, c2, rfl, hc2, hm2⟩ := hK2.form
  obtain ⟨vk, hvk⟩ : ∃ v, v = Value.slice A1 tP.k.length c1 := ⟨_, rfl⟩
  obtain ⟨vr, hvr⟩ : ∃ v, v = Value.slice A2 tP.r.length c2 := ⟨_, rfl⟩
  rw [← hvk, ← hvr] at hSr hBw ⊢
  rw [← hvk] at hK1
  rw [← hvr] at hK2
  clear hvk hvr
  try simp only [Act.put, List.setIfInBounds_toArray, List.set_cons_zero, List.set_cons_succ]
  go_cut [6] (fun s6 wx => ∃ bb mb v1 v2, s6 = .pointer (some ⟨bb, 0, none⟩) ∧ Wa.heap.size ≤ bb ∧ BasS wx bb mb 0 tP v1 v2 (.slice none 0 0) (.slice none 0 0) [] ∧ Chg [] Wa wx)
  case first =>
    have hC : Chg [] Wa Wa.drew := (Chg.refl _ _).drew
    have hD := hC
    refine wp_region_K (S := fun W => W.rangeAt B0 0 (tbV tP vk vr).toList) 99 (by kernel_rfl) (hSr _ hD) (fun hH => ?_)
    refine wpAnyK_take (i := 0) (v := .pointer (some ⟨B0, 0, none⟩)) rfl (by kernel_rfl) (by kernel_rfl) (by kernel_rfl) (by kernel_rfl) (by decide) (fun _ _ _ h => h) (Or.inl ⟨by rfl, fun w' hw' => by go_simp⟩) hH ?_
    try simp only [List.getElem_toArray, List.getElem_cons_succ, List.getElem_cons_zero, Act.put, List.setIfInBounds_toArray, List.set_cons_zero, List.set_cons_succ]
    refine wpAnyK_take (i := 1) (v := .int .i64 tP.n) rfl (by kernel_rfl) (by kernel_rfl) (by kernel_rfl) (by kernel_rfl) (by decide) (fun _ _ _ h => h) (yieldsIf_load_cell (by rfl) 3 _ rfl (B0) (0) rfl _ (fun w' hw' => by have := hw' 0 _ rfl; rwa [Nat.zero_add] at this) (fun w => Tryz.isAgg3 w)) hH ?_
    try simp only [List.getElem_toArray, List.getElem_cons_succ, List.getElem_cons_zero, Act.put, List.setIfInBounds_toArray, List.set_cons_zero, List.set_cons_succ]
    refine wpAnyK_take (i := 2) (v := .pointer (some ⟨B0, 1, none⟩)) rfl (by kernel_rfl) (by kernel_rfl) (by kernel_rfl) (by kernel_rfl) (by decide) (fun _ _ _ h => h) (Or.inl ⟨by rfl, fun w' hw' => by go_simp⟩) hH ?_
    try simp only [List.getElem_toArray, List.getElem_cons_succ, List.getElem_cons_zero, Act.put, List.setIfInBounds_toArray, List.set_cons_zero, List.set_cons_succ]
    refine wpAnyK_take (i := 3) (v := vk) rfl (by kernel_rfl) (by kernel_rfl) (by kernel_rfl) (by kernel_rfl) (by decide) (fun _ _ _ h => h) (yieldsIf_load_cell (by rfl) 35 _ rfl (B0) (1) rfl _ (fun w' hw' => by have := hw' 1 _ rfl; rwa [Nat.zero_add] at this) (fun w => Tryz.isAgg35 w)) hH ?_
    try simp only [List.getElem_toArray, List.getElem_cons_succ, List.getElem_cons_zero, Act.put, List.setIfInBounds_toArray, List.set_cons_zero, List.set_cons_succ]
    refine wpAnyK_take (i := 5) (v := .pointer (some ⟨B0, 2, none⟩)) rfl (by kernel_rfl) (by kernel_rfl) (by kernel_rfl) (by kernel_rfl) (by decide) (fun _ _ _ h => h) (Or.inl ⟨by rfl, fun w' hw' => by go_simp⟩) hH ?_
    try simp only [List.getElem_toArray, List.getElem_cons_succ, List.getElem_cons_zero, Act.put, List.setIfInBounds_toArray, List.set_cons_zero, List.set_cons_succ]
    refine wpAnyK_take (i := 6) (v := vr) rfl (by kernel_rfl) (by kernel_rfl) (by kernel_rfl) (by kernel_rfl) (by decide) (fun _ _ _ h => h) (yieldsIf_load_cell (by rfl) 35 _ rfl (B0) (2) rfl _ (fun w' hw' => by have := hw' 2 _ rfl; rwa [Nat.zero_add] at this) (fun w => Tryz.isAgg35 w)) hH ?_
    try simp only [List.getElem_toArray, List.getElem_cons_succ, List.getElem_cons_zero, Act.put, List.setIfInBounds_toArray, List.set_cons_zero, List.set_cons_succ]
    refine wpAnyK_take (i := 9) (v := .agg #[.slice none 0 0]) rfl (by kernel_rfl) (by kernel_rfl) (by kernel_rfl) (by kernel_rfl) (by decide) (fun _ _ _ h => h) (Or.inl ⟨by rfl, fun w' hw' => by go_simp⟩) hH ?_
    try simp only [List.getElem_toArray, List.getElem_cons_succ, List.getElem_cons_zero, Act.put, List.setIfInBounds_toArray, List.set_cons_zero, List.set_cons_succ]
    refine wpAnyK_ready (rs := [4, 10]) (by kernel_rfl) (by simp) ?_
    refine AllReadyK.cons rfl (fun K hK => ?_) (AllReadyK.cons rfl (fun K hK => ?_) AllReadyK.nil)
    · go_simp
      refine (clonek_o vk tP.k _ (hK1.ext hC) (by decide) (by decide)).mono ?_
      rintro e W1 ⟨v1, rfl, ho1, hC4⟩
      have hC := hC.trans hC4
      obtain ⟨X1, y1, rfl, _, _⟩ := (Sl.own ho1).form
      refine hK.out _ _ (hSr _ hC) (fun hH => ?_)
      clear hK K
      try simp only [List.getElem_toArray, List.getElem_cons_succ, List.getElem_cons_zero, Act.put, List.setIfInBounds_toArray, List.set_cons_zero, List.set_cons_succ]
      refine wpAnyK_ready (rs := [7, 10]) (by kernel_rfl) (by simp) ?_
      refine AllReadyK.cons rfl (fun K hK => ?_) (AllReadyK.cons rfl (fun K hK => ?_) AllReadyK.nil)
      · go_simp
        refine (clonek_o vr tP.r _ (hK2.ext hC) (by decide) (by decide)).mono ?_
        rintro e W2 ⟨v2, rfl, ho2, hC7⟩
        have hC := hC.trans hC7
        have ho1 := own_ext ho1 hC7
        obtain ⟨X2, y2, rfl, _, _⟩ := (Sl.own ho2).form
        refine hK.out _ _ (hSr _ hC) (fun hH => ?_)
        clear hK K
        try simp only [List.getElem_toArray, List.getElem_cons_succ, List.getElem_cons_zero, Act.put, List.setIfInBounds_toArray, List.set_cons_zero, List.set_cons_succ]
        refine wpAnyK_take (i := 8) (v := .agg #[.int .i64 tP.n, .slice X1 tP.k.length y1, .slice X2 tP.r.length y2]) rfl (by kernel_rfl) (by kernel_rfl) (by kernel_rfl) (by kernel_rfl) (by decide) (fun _ _ _ h => h) (Or.inl ⟨by rfl, fun w' hw' => by go_simp⟩) hH ?_
        try simp only [List.getElem_toArray, List.getElem_cons_succ, List.getElem_cons_zero, Act.put, List.setIfInBounds_toArray, List.set_cons_zero, List.set_cons_succ]
        refine wpAnyK_ready (rs := [10]) (by kernel_rfl) (by simp) ?_
        refine AllReadyK.cons rfl (fun K hK => ?_) AllReadyK.nil
        go_simp
        have hMb : Blk (W2.alloc (.cells #[.slice none 0 0] 135)) W2.heap.size 135 #[.slice none 0 0] := Blk.new _ _ _
        have hC := hC.alloc (.cells #[.slice none 0 0] 135)
        have ho1 := ho1.alloc (.cells #[.slice none 0 0] 135)
        have ho2 := ho2.alloc (.cells #[.slice none 0 0] 135)
        refine hK.out _ _ (hSr _ hC) (fun hH => ?_)
        clear hK K
        try simp only [List.getElem_toArray, List.getElem_cons_succ, List.getElem_cons_zero, Act.put, List.setIfInBounds_toArray, List.set_cons_zero, List.set_cons_succ]
        refine wpAnyK_take (i := 11) (v := .agg #[.int .i64 tP.n, .slice X1 tP.k.length y1, .slice X2 tP.r.length y2, .slice none 0 0, .pointer (some ⟨W2.heap.size, 0, none⟩)]) rfl (by kernel_rfl) (by kernel_rfl) (by kernel_rfl) (by kernel_rfl) (by decide) (fun _ _ _ h => h) (Or.inl ⟨by rfl, fun w' hw' => by go_simp⟩) hH ?_
        try simp only [List.getElem_toArray, List.getElem_cons_succ, List.getElem_cons_zero, Act.put, List.setIfInBounds_toArray, List.set_cons_zero, List.set_cons_succ]
        refine wpAnyK_ready (rs := [12]) (by kernel_rfl) (by simp) ?_
        refine AllReadyK.cons rfl (fun K hK => ?_) AllReadyK.nil
        go_simp
        have hCs := hC.size
        have hC := hC.alloc (.cells #[.int .i64 tP.n, .slice X1 tP.k.length y1, .slice X2 tP.r.length y2, .slice none 0 0, .pointer (some ⟨W2.heap.size, 0, none⟩)] 91)
        have hBb : Blk ((W2.alloc (.cells #[.slice none 0 0] 135)).alloc (.cells #[.int .i64 tP.n, .slice X1 tP.k.length y1, .slice X2 tP.r.length y2, .slice none 0 0, .pointer (some ⟨W2.heap.size, 0, none⟩)] 91)) (W2.heap.size + 1) 91 (baseC tP (.slice X1 tP.k.length y1) (.slice X2 tP.r.length y2) (.slice none 0 0) (W2.heap.size)) := Blk.newEq (by first | rfl | simp)
        have ho1 := ho1.alloc (.cells #[.int .i64 tP.n, .slice X1 tP.k.length y1, .slice X2 tP.r.length y2, .slice none 0 0, .pointer (some ⟨W2.heap.size, 0, none⟩)] 91)
        have ho2 := ho2.alloc (.cells #[.int .i64 tP.n, .slice X1 tP.k.length y1, .slice X2 tP.r.length y2, .slice none 0 0, .pointer (some ⟨W2.heap.size, 0, none⟩)] 91)
        have hMb := hMb.alloc (.cells #[.int .i64 tP.n, .slice X1 tP.k.length y1, .slice X2 tP.r.length y2, .slice none 0 0, .pointer (some ⟨W2.heap.size, 0, none⟩)] 91)
        refine hK.out _ _ (hSr _ hC) (fun hH => ?_)
        clear hK K
        try simp only [List.getElem_toArray, List.getElem_cons_succ, List.getElem_cons_zero, Act.put, List.setIfInBounds_toArray, List.set_cons_zero, List.set_cons_succ]
        refine wpAnyK_take (i := 13) (v := .pointer (some ⟨W2.heap.size + 1, 0, none⟩)) rfl (by kernel_rfl) (by kernel_rfl) (by kernel_rfl) (by kernel_rfl) (by decide) (fun _ _ _ h => h) (Or.inl ⟨by rfl, fun w' hw' => by go_simp⟩) hH ?_
        try simp only [List.getElem_toArray, List.getElem_cons_succ, List.getElem_cons_zero, Act.put, List.setIfInBounds_toArray, List.set_cons_zero, List.set_cons_succ]
        refine wpAnyK_done (by kernel_rfl) ?_ _
        go_wp2_with fail
        go_meet
        exact ⟨_, _, (.slice X1 tP.k.length y1), (.slice X2 tP.r.length y2), rfl, by first | omega | (simp at hCs ⊢; omega), ⟨hBb, ⟨_, ho1⟩, ⟨_, ho2⟩, ModV.zero hMb, tP_ok, by decide⟩, hC⟩
      · go_simp
        have hMb : Blk (W1.alloc (.cells #[.slice none 0 0] 135)) W1.heap.size 135 #[.slice none 0 0] := Blk.new _ _ _
        have hC := hC.alloc (.cells #[.slice none 0 0] 135)
        have ho1 := ho1.alloc (.cells #[.slice none 0 0] 135)
        refine hK.out _ _ (hSr _ hC) (fun hH => ?_)
        clear hK K
        try simp only [List.getElem_toArray, List.getElem_cons_succ, List.getElem_cons_zero, Act.put, List.setIfInBounds_toArray, List.set_cons_zero, List.set_cons_succ]
        refine wpAnyK_ready (rs := [7]) (by kernel_rfl) (by simp) ?_
        refine AllReadyK.cons rfl (fun K hK => ?_) AllReadyK.nil
        go_simp
        refine (clonek_o vr tP.r _ (hK2.ext hC) (by decide) (by decide)).mono ?_
        rintro e W3 ⟨v2, rfl, ho2, hC7⟩
        have hC := hC.trans hC7
        have ho1 := own_ext ho1 hC7
        obtain ⟨X2, y2, rfl, _, _⟩ := (Sl.own ho2).form
        have hMb := hMb.ext hC7
        refine hK.out _ _ (hSr _ hC) (fun hH => ?_)
        clear hK K
        try simp only [List.getElem_toArray, List.getElem_cons_succ, List.getElem_cons_zero, Act.put, List.setIfInBounds_toArray, List.set_cons_zero, List.set_cons_succ]
        refine wpAnyK_take (i := 8) (v := .agg #[.int .i64 tP.n, .slice X1 tP.k.length y1, .slice X2 tP.r.length y2]) rfl (by kernel_rfl) (by kernel_rfl) (by kernel_rfl) (by kernel_rfl) (by decide) (fun _ _ _ h => h) (Or.inl ⟨by rfl, fun w' hw' => by go_simp⟩) hH ?_
        try simp only [List.getElem_toArray, List.getElem_cons_succ, List.getElem_cons_zero, Act.put, List.setIfInBounds_toArray, List.set_cons_zero, List.set_cons_succ]
        refine wpAnyK_take (i := 11) (v := .agg #[.int .i64 tP.n, .slice X1 tP.k.length y1, .slice X2 tP.r.length y2, .slice none 0 0, .pointer (some ⟨W1.heap.size, 0, none⟩)]) rfl (by kernel_rfl) (by kernel_rfl) (by kernel_rfl) (by kernel_rfl) (by decide) (fun _ _ _ h => h) (Or.inl ⟨by rfl, fun w' hw' => by go_simp⟩) hH ?_
        try simp only [List.getElem_toArray, List.getElem_cons_succ, List.getElem_cons_zero, Act.put, List.setIfInBounds_toArray, List.set_cons_zero, List.set_cons_succ]
        refine wpAnyK_ready (rs := [12]) (by kernel_rfl) (by simp) ?_
        refine AllReadyK.cons rfl (fun K hK => ?_) AllReadyK.nil
        go_simp
        have hCs := hC.size
        have hC := hC.alloc (.cells #[.int .i64 tP.n, .slice X1 tP.k.length y1, .slice X2 tP.r.length y2, .slice none 0 0, .pointer (some ⟨W1.heap.size, 0, none⟩)] 91)
        have hBb : Blk ((W3).alloc (.cells #[.int .i64 tP.n, .slice X1 tP.k.length y1, .slice X2 tP.r.length y2, .slice none 0 0, .pointer (some ⟨W1.heap.size, 0, none⟩)] 91)) (W3.heap.size) 91 (baseC tP (.slice X1 tP.k.length y1) (.slice X2 tP.r.length y2) (.slice none 0 0) (W1.heap.size)) := Blk.newEq (by first | rfl | simp)
        have ho1 := ho1.alloc (.cells #[.int .i64 tP.n, .slice X1 tP.k.length y1, .slice X2 tP.r.length y2, .slice none 0 0, .pointer (some ⟨W1.heap.size, 0, none⟩)] 91)
        have ho2 := ho2.alloc (.cells #[.int .i64 tP.n, .slice X1 tP.k.length y1, .slice X2 tP.r.length y2, .slice none 0 0, .pointer (some ⟨W1.heap.size, 0, none⟩)] 91)
        have hMb := hMb.alloc (.cells #[.int .i64 tP.n, .slice X1 tP.k.length y1, .slice X2 tP.r.length y2, .slice none 0 0, .pointer (some ⟨W1.heap.size, 0, none⟩)] 91)
        refine hK.out _ _ (hSr _ hC) (fun hH => ?_)
        clear hK K
        try simp only [List.getElem_toArray, List.getElem_cons_succ, List.getElem_cons_zero, Act.put, List.setIfInBounds_toArray, List.set_cons_zero, List.set_cons_succ]
        refine wpAnyK_take (i := 13) (v := .pointer (some ⟨W3.heap.size, 0, none⟩)) rfl (by kernel_rfl) (by kernel_rfl) (by kernel_rfl) (by kernel_rfl) (by decide) (fun _ _ _ h => h) (Or.inl ⟨by rfl, fun w' hw' => by go_simp⟩) hH ?_
        try simp only [List.getElem_toArray, List.getElem_cons_succ, List.getElem_cons_zero, Act.put, List.setIfInBounds_toArray, List.set_cons_zero, List.set_cons_succ]
        refine wpAnyK_done (by kernel_rfl) ?_ _
        go_wp2_with fail
        go_meet
        exact ⟨_, _, (.slice X1 tP.k.length y1), (.slice X2 tP.r.length y2), rfl, by first | omega | (simp at hCs ⊢; omega), ⟨hBb, ⟨_, ho1⟩, ⟨_, ho2⟩, ModV.zero hMb, tP_ok, by decide⟩, hC⟩
    · go_simp
      have hC : Chg [] Wa ((Wa.alloc (.cells #[.slice none 0 0] 135)).drew) := ((Chg.refl [] Wa).alloc _).drew
      have hMb : Blk ((Wa.alloc (.cells #[.slice none 0 0] 135)).drew) Wa.heap.size 135 #[.slice none 0 0] := (Blk.new Wa 135 _).drew
      refine hK.out _ _ (hSr _ hC) (fun hH => ?_)
      clear hK K
      try simp only [List.getElem_toArray, List.getElem_cons_succ, List.getElem_cons_zero, Act.put, List.setIfInBounds_toArray, List.set_cons_zero, List.set_cons_succ]
      refine wpAnyK_ready (rs := [4]) (by kernel_rfl) (by simp) ?_
      refine AllReadyK.cons rfl (fun K hK => ?_) AllReadyK.nil
      go_simp
      refine (clonek_o vk tP.k _ (hK1.ext hC) (by decide) (by decide)).mono ?_
      rintro e W2 ⟨v1, rfl, ho1, hC4⟩
      have hC := hC.trans hC4
      obtain ⟨X1, y1, rfl, _, _⟩ := (Sl.own ho1).form
      have hMb := hMb.ext hC4
      refine hK.out _ _ (hSr _ hC) (fun hH => ?_)
      clear hK K
      try simp only [List.getElem_toArray, List.getElem_cons_succ, List.getElem_cons_zero, Act.put, List.setIfInBounds_toArray, List.set_cons_zero, List.set_cons_succ]
      refine wpAnyK_ready (rs := [7]) (by kernel_rfl) (by simp) ?_
      refine AllReadyK.cons rfl (fun K hK => ?_) AllReadyK.nil
      go_simp
      refine (clonek_o vr tP.r _ (hK2.ext hC) (by decide) (by decide)).mono ?_
      rintro e W3 ⟨v2, rfl, ho2, hC7⟩
      have hC := hC.trans hC7
      have ho1 := own_ext ho1 hC7
      obtain ⟨X2, y2, rfl, _, _⟩ := (Sl.own ho2).form
      have hMb := hMb.ext hC7
      refine hK.out _ _ (hSr _ hC) (fun hH => ?_)
      clear hK K
      try simp only [List.getElem_toArray, List.getElem_cons_succ, List.getElem_cons_zero, Act.put, List.setIfInBounds_toArray, List.set_cons_zero, List.set_cons_succ]
      refine wpAnyK_take (i := 8) (v := .agg #[.int .i64 tP.n, .slice X1 tP.k.length y1, .slice X2 tP.r.length y2]) rfl (by kernel_rfl) (by kernel_rfl) (by kernel_rfl) (by kernel_rfl) (by decide) (fun _ _ _ h => h) (Or.inl ⟨by rfl, fun w' hw' => by go_simp⟩) hH ?_
      try simp only [List.getElem_toArray, List.getElem_cons_succ, List.getElem_cons_zero, Act.put, List.setIfInBounds_toArray, List.set_cons_zero, List.set_cons_succ]
      refine wpAnyK_take (i := 11) (v := .agg #[.int .i64 tP.n, .slice X1 tP.k.length y1, .slice X2 tP.r.length y2, .slice none 0 0, .pointer (some ⟨Wa.heap.size, 0, none⟩)]) rfl (by kernel_rfl) (by kernel_rfl) (by kernel_rfl) (by kernel_rfl) (by decide) (fun _ _ _ h => h) (Or.inl ⟨by rfl, fun w' hw' => by go_simp⟩) hH ?_
      try simp only [List.getElem_toArray, List.getElem_cons_succ, List.getElem_cons_zero, Act.put, List.setIfInBounds_toArray, List.set_cons_zero, List.set_cons_succ]
      refine wpAnyK_ready (rs := [12]) (by kernel_rfl) (by simp) ?_
      refine AllReadyK.cons rfl (fun K hK => ?_) AllReadyK.nil
      go_simp
      have hCs := hC.size
      have hC := hC.alloc (.cells #[.int .i64 tP.n, .slice X1 tP.k.length y1, .slice X2 tP.r.length y2, .slice none 0 0, .pointer (some ⟨Wa.heap.size, 0, none⟩)] 91)
      have hBb : Blk ((W3).alloc (.cells #[.int .i64 tP.n, .slice X1 tP.k.length y1, .slice X2 tP.r.length y2, .slice none 0 0, .pointer (some ⟨Wa.heap.size, 0, none⟩)] 91)) (W3.heap.size) 91 (baseC tP (.slice X1 tP.k.length y1) (.slice X2 tP.r.length y2) (.slice none 0 0) (Wa.heap.size)) := Blk.newEq (by first | rfl | simp)
      have ho1 := ho1.alloc (.cells #[.int .i64 tP.n, .slice X1 tP.k.length y1, .slice X2 tP.r.length y2, .slice none 0 0, .pointer (some ⟨Wa.heap.size, 0, none⟩)] 91)
      have ho2 := ho2.alloc (.cells #[.int .i64 tP.n, .slice X1 tP.k.length y1, .slice X2 tP.r.length y2, .slice none 0 0, .pointer (some ⟨Wa.heap.size, 0, none⟩)] 91)
      have hMb := hMb.alloc (.cells #[.int .i64 tP.n, .slice X1 tP.k.length y1, .slice X2 tP.r.length y2, .slice none 0 0, .pointer (some ⟨Wa.heap.size, 0, none⟩)] 91)
      refine hK.out _ _ (hSr _ hC) (fun hH => ?_)
      clear hK K
      try simp only [List.getElem_toArray, List.getElem_cons_succ, List.getElem_cons_zero, Act.put, List.setIfInBounds_toArray, List.set_cons_zero, List.set_cons_succ]
      refine wpAnyK_take (i := 13) (v := .pointer (some ⟨W3.heap.size, 0, none⟩)) rfl (by kernel_rfl) (by kernel_rfl) (by kernel_rfl) (by kernel_rfl) (by decide) (fun _ _ _ h => h) (Or.inl ⟨by rfl, fun w' hw' => by go_simp⟩) hH ?_
      try simp only [List.getElem_toArray, List.getElem_cons_succ, List.getElem_cons_zero, Act.put, List.setIfInBounds_toArray, List.set_cons_zero, List.set_cons_succ]
      refine wpAnyK_done (by kernel_rfl) ?_ _
      go_wp2_with fail
      go_meet
      exact ⟨_, _, (.slice X1 tP.k.length y1), (.slice X2 tP.r.length y2), rfl, by first | omega | (simp at hCs ⊢; omega), ⟨hBb, ⟨_, ho1⟩, ⟨_, ho2⟩, ModV.zero hMb, tP_ok, by decide⟩, hC⟩
  case rest =>
    obtain ⟨bb, mb, v1, v2, rfl, hbb, hBS, hCx⟩ := hcut
    obtain ⟨Wb, rfl⟩ : ∃ Wb : World, Wb = wc := ⟨_, rfl⟩
    have hBx := hBw.ext hCx
    have n0 : ∀ ob, (Wb.alloc ob).cell? ⟨B0, 0, none⟩ = some (.int .i64 1) := fun ob => (hBx.alloc ob).cell 0
    have hbb2 : w.heap.size ≤ bb := Nat.le_trans hwa hbb
    have hCwb := hCw.trans hCx
    have hk1 := hK1.ext hCx
    have hk2 := hK2.ext hCx
    have hcl := block_lt_of_cell hcb
    have hcbb : Wb.cell? ⟨cb, 0, none⟩ = some (.int .i64 2) := by rw [hCwb.cell hcl (by simp)]; exact hcb
    have hcll := block_lt_of_cell hcbb
    have hcbA : ∀ W, Chg [] Wb W → W.cell? ⟨cb, 0, none⟩ = some (.int .i64 2) := fun W hW => by rw [hW.cell hcll (by simp)]; exact hcbb
    have hLb := hL.ext hCwb
    obtain ⟨um, hum⟩ : ∃ um, um = Wb.heap.size := ⟨_, rfl⟩
    clear hSr hcb hcbb
    go_wp2_with (first
      | (refine wpList_insert_b rfl (.tmp 34) (.tmp 36) (.const (.bool true)) rfl Wb.heap.size 0 _ rfl (MapB.made Wb) (by omega) 1 true rfl rfl (by decide) ?_; clear n0; intro W4 hM4 hC4))
    rw [← hum] at hM4 hC4
    rw [← hum]
    have hC5 : Chg [] Wb W4 := ((Chg.refl [] Wb).alloc (.map #[] 0)).on hC4 (fun i hi => .inr (by simp at hi; omega))
    have hL4 := hLb.ext hC5
    have hwum : Wb.heap.size ≤ um := by omega
    clear hum
    refine wp_loop_rounds 2 ?_
    rw [rounds_succ]
    go_upto_region 9 with (first
      | (refine wpList_load_rng (by rfl) 41 (.tmp 42) rfl lb 0 rfl _ _ (rng3 hL4) Tryz.underlying41 rfl (by kernel_rfl) ?_))
    obtain ⟨X, hX⟩ : ∃ X, X = W4.heap.size := ⟨_, rfl⟩
    obtain ⟨sm, hsm⟩ : ∃ sm, sm = (W4.alloc (.cells #[.int .i64 3, .slice (some ⟨cb, 0, none⟩) 1 1, .bool false] 41)).heap.size := ⟨_, rfl⟩
    have hsm2 : W4.heap.size + 1 = sm := by rw [hsm]; simp
    refine wp_world (fun W => Blk W X 41 #[.int .i64 3, .slice (some ⟨cb, 0, none⟩) 1 1, .bool false] ∧ MapB W sm 0 (fun _ => none) ∧ Chg [] W4 W) ⟨(Blk.newEq hX).alloc _, by rw [hsm]; exact MapB.made _, ((Chg.refl _ _).alloc _).alloc _⟩ (fun W5 hW => ?_)
    rw [hsm2, ← hX]
    have hum4 := hM4.lt
    have hne1 : um ≠ sm := by omega
    have hsmb : Wb.heap.size ≤ sm := by have := hC5.size; omega
    have hC05 := hC5
    clear hX hsm hsm2
    obtain ⟨hX5, hS5, hC45⟩ := hW
    have hC5 := hC05.trans hC45
    have hM5 := hM4.ext hC45
    have x1 : W5.cell? ⟨X, 1, none⟩ = some (.slice (some ⟨cb, 0, none⟩) 1 1) := hX5.cell 1
    have hc5 := hcbA _ hC5
    have hB5 := hBx.ext hC5
    have hneX := hS5.ne hX5
    go_wp2
    refine wp_loop_rounds 2 ?_
    rw [rounds_succ]
    go_wp2_with (first
      | (refine wpList_load_rowg (by rfl) 37 (.tmp 2) rfl B0 rfl 37 (tbV tP vk vr) (0, 0) _ hB5 Tryz.underlying37 rfl (by kernel_rfl) ?_)
      | (go_at_call 69; refine (kindsP_w vk vr _ (hk1.ext hC5) (hk2.ext hC5)).mono ?_; rintro e W6 ⟨v6, rfl, ho6, hC6⟩; obtain ⟨A6, c6, rfl, _, _⟩ := (Sl.own ho6).form; have hS6 := hS5.ext hC6)
      | (refine wpList_lookup_b (by rfl) (.tmp 62) (.tmp 63) false rfl sm 0 _ rfl hS6 2 rfl (by decide) (.bool false) rfl ?_)
      | (refine wpList_mapUpdate_b rfl (.tmp 66) (.tmp 67) (.const (.bool true)) rfl sm 0 _ rfl hS6 (by omega) 2 true rfl rfl (by decide) ?_; intro W7 hS7 hC7))
    rw [rounds_succ]
    have hC57 : Chg [sm] W5 W7 := (hC6.mono (by simp)).trans hC7
    have hX7 := hX5.chg hC57 (by simpa using hneX.symm)
    have hM7 := hM5.chg hC57 (by simpa using hne1)
    have hs4 := hC45.size
    have hCb7 : Chg [] Wb W7 := hC5.on hC57 (fun i hi => .inr (by simp at hi; omega))
    have x0 : W7.cell? ⟨X, 0, none⟩ = some (.int .i64 3) := hX7.cell 0
    have x1' : W7.cell? ⟨X, 1, none⟩ = some (.slice (some ⟨cb, 0, none⟩) 1 1) := hX7.cell 1
    have hB7 := hBx.ext hCb7
    have hf3 : putB (fun _ => none) 1 true 3 = none := by simp [putB]
    clear x1 hc5
    go_upto_region 19 with (first
      | (refine wpList_lookup_b (by rfl) (.tmp 69) (.tmp 71) false rfl um 1 _ rfl hM7 3 rfl (by decide) (.bool false) (by rw [hf3]; rfl) ?_)
      | (refine wpList_load_rowg (by rfl) 37 (.tmp 2) rfl B0 rfl 37 (tbV tP vk vr) (0, 0) _ hB7 Tryz.underlying37 rfl (by kernel_rfl) ?_)
      | (refine wpList_load_rowg (by rfl) 41 (.tmp 9) rfl X rfl 41 #[.int .i64 3, .slice (some ⟨cb, 0, none⟩) 1 1, .bool false] (0, 0) _ hX7 Tryz.underlying41 rfl (by kernel_rfl) ?_)
      | (go_at_call 35; refine (tableof_w vk vr cb 1 _ (hk1.ext hCb7) (hk2.ext hCb7) (hcbA _ hCb7)).mono ?_; rintro e W8 ⟨v8, rfl, ho8, hC8⟩)
      | (go_at_call 28; refine (valid_t tE v8 _ _ tE_ok ho8 (.inl ⟨rfl, rfl⟩)).mono ?_; rintro e W9 ⟨rfl, hC9⟩; have hC79 := hC8.trans hC9; have hM9 := hM7.ext hC79; have x0'' : W9.cell? ⟨X, 0, none⟩ = some (.int .i64 3) := (hX7.ext hC79).cell 0)
      | (refine wpList_mapUpdate_b rfl (.tmp 92) (.tmp 94) (.const (.bool true)) rfl um 1 _ rfl hM9 (by omega) 3 true rfl rfl (by decide) ?_; intro W10 hM10 hC10))
    have hneU := hM9.ne (hX7.ext hC79)
    have hXT : Blk W10 X 41 #[.int .i64 3, .slice (some ⟨cb, 0, none⟩) 1 1, .bool false] := (hX7.ext hC79).chg hC10 (by simpa using hneU.symm)
    have hCbT : Chg [] Wb W10 := (hCb7.trans hC79).on hC10 (fun i hi => .inr (by simp at hi; have := hC5.size; omega))
    have hBT := hBS.ext hCbT
    have hCwT := hCwb.trans hCbT
    have hcbT : ∀ W, Chg [] W10 W → W.cell? ⟨cb, 0, none⟩ = some (.int .i64 2) := fun W hW => hcbA W (hCbT.trans hW)
    have hSx : ∀ W, Chg [] W10 W → (W.cell? ⟨bb, 3, none⟩ = some (.slice none 0 0) ∧ W.rangeAt X 0 [Value.int .i64 3, .slice (some ⟨cb, 0, none⟩) 1 1, .bool false]) := fun W hW => ⟨(hBT.ext hW).b.cell 3, rng3 (hXT.ext hW)⟩
    have hE : Chg [] W10 W10.drew := (Chg.refl _ _).drew
    refine wp_region_K (S := fun W => W.cell? ⟨bb, 3, none⟩ = some (.slice none 0 0) ∧ W.rangeAt X 0 [Value.int .i64 3, .slice (some ⟨cb, 0, none⟩) 1 1, .bool false]) 17 (by kernel_rfl) (hSx _ hE) (fun hH => ?_)
    refine wpAnyK_take (i := 0) (v := .pointer (some ⟨bb, 0, none⟩)) rfl (by kernel_rfl) (by kernel_rfl) (by kernel_rfl) (by kernel_rfl) (by decide) (fun _ _ _ h => h) (Or.inl ⟨by rfl, fun w' hw' => by go_simp⟩) hH ?_
    try simp only [List.getElem_toArray, List.getElem_cons_succ, List.getElem_cons_zero, Act.put, List.setIfInBounds_toArray, List.set_cons_zero, List.set_cons_succ]
    refine wpAnyK_take (i := 1) (v := .pointer (some ⟨bb, 0, none⟩)) rfl (by kernel_rfl) (by kernel_rfl) (by kernel_rfl) (by kernel_rfl) (by decide) (fun _ _ _ h => h) (Or.inl ⟨by rfl, fun w' hw' => by go_simp⟩) hH ?_
    try simp only [List.getElem_toArray, List.getElem_cons_succ, List.getElem_cons_zero, Act.put, List.setIfInBounds_toArray, List.set_cons_zero, List.set_cons_succ]
    refine wpAnyK_take (i := 2) (v := .pointer (some ⟨bb, 0, none⟩)) rfl (by kernel_rfl) (by kernel_rfl) (by kernel_rfl) (by kernel_rfl) (by decide) (fun _ _ _ h => h) (Or.inl ⟨by rfl, fun w' hw' => by go_simp⟩) hH ?_
    try simp only [List.getElem_toArray, List.getElem_cons_succ, List.getElem_cons_zero, Act.put, List.setIfInBounds_toArray, List.set_cons_zero, List.set_cons_succ]
    refine wpAnyK_take (i := 3) (v := .pointer (some ⟨bb, 3, none⟩)) rfl (by kernel_rfl) (by kernel_rfl) (by kernel_rfl) (by kernel_rfl) (by decide) (fun _ _ _ h => h) (Or.inl ⟨by rfl, fun w' hw' => by go_simp⟩) hH ?_
    try simp only [List.getElem_toArray, List.getElem_cons_succ, List.getElem_cons_zero, Act.put, List.setIfInBounds_toArray, List.set_cons_zero, List.set_cons_succ]
    refine wpAnyK_take (i := 4) (v := .slice none 0 0) rfl (by kernel_rfl) (by kernel_rfl) (by kernel_rfl) (by kernel_rfl) (by decide) (fun _ _ _ h => h) (yieldsIf_load_cell (by rfl) 80 _ rfl (bb) (3) rfl _ (fun w' hw' => hw'.1) (fun w => Tryz.isAgg80 w)) hH ?_
    try simp only [List.getElem_toArray, List.getElem_cons_succ, List.getElem_cons_zero, Act.put, List.setIfInBounds_toArray, List.set_cons_zero, List.set_cons_succ]
    refine wpAnyK_take (i := 5) (v := .pointer (some ⟨X, 0, none⟩)) rfl (by kernel_rfl) (by kernel_rfl) (by kernel_rfl) (by kernel_rfl) (by decide) (fun _ _ _ h => h) (Or.inl ⟨by rfl, fun w' hw' => by go_simp⟩) hH ?_
    try simp only [List.getElem_toArray, List.getElem_cons_succ, List.getElem_cons_zero, Act.put, List.setIfInBounds_toArray, List.set_cons_zero, List.set_cons_succ]
    refine wpAnyK_take (i := 6) (v := .int .i64 3) rfl (by kernel_rfl) (by kernel_rfl) (by kernel_rfl) (by kernel_rfl) (by decide) (fun _ _ _ h => h) (yieldsIf_load_cell (by rfl) 3 _ rfl (X) (0) rfl _ (fun w' hw' => by have := hw'.2 0 _ rfl; rwa [Nat.zero_add] at this) (fun w => Tryz.isAgg3 w)) hH ?_
    try simp only [List.getElem_toArray, List.getElem_cons_succ, List.getElem_cons_zero, Act.put, List.setIfInBounds_toArray, List.set_cons_zero, List.set_cons_succ]
    refine wpAnyK_take (i := 7) (v := .pointer (some ⟨X, 1, none⟩)) rfl (by kernel_rfl) (by kernel_rfl) (by kernel_rfl) (by kernel_rfl) (by decide) (fun _ _ _ h => h) (Or.inl ⟨by rfl, fun w' hw' => by go_simp⟩) hH ?_
    try simp only [List.getElem_toArray, List.getElem_cons_succ, List.getElem_cons_zero, Act.put, List.setIfInBounds_toArray, List.set_cons_zero, List.set_cons_succ]
    refine wpAnyK_take (i := 8) (v := .slice (some ⟨cb, 0, none⟩) 1 1) rfl (by kernel_rfl) (by kernel_rfl) (by kernel_rfl) (by kernel_rfl) (by decide) (fun _ _ _ h => h) (yieldsIf_load_cell (by rfl) 39 _ rfl (X) (1) rfl _ (fun w' hw' => by have := hw'.2 1 _ rfl; rwa [Nat.zero_add] at this) (fun w => Tryz.isAgg39 w)) hH ?_
    try simp only [List.getElem_toArray, List.getElem_cons_succ, List.getElem_cons_zero, Act.put, List.setIfInBounds_toArray, List.set_cons_zero, List.set_cons_succ]
    refine wpAnyK_take (i := 10) (v := .pointer (some ⟨X, 2, none⟩)) rfl (by kernel_rfl) (by kernel_rfl) (by kernel_rfl) (by kernel_rfl) (by decide) (fun _ _ _ h => h) (Or.inl ⟨by rfl, fun w' hw' => by go_simp⟩) hH ?_
    try simp only [List.getElem_toArray, List.getElem_cons_succ, List.getElem_cons_zero, Act.put, List.setIfInBounds_toArray, List.set_cons_zero, List.set_cons_succ]
    refine wpAnyK_take (i := 11) (v := .bool false) rfl (by kernel_rfl) (by kernel_rfl) (by kernel_rfl) (by kernel_rfl) (by decide) (fun _ _ _ h => h) (yieldsIf_load_cell (by rfl) 4 _ rfl (X) (2) rfl _ (fun w' hw' => by have := hw'.2 2 _ rfl; rwa [Nat.zero_add] at this) (fun w => Tryz.isAgg4 w)) hH ?_
    try simp only [List.getElem_toArray, List.getElem_cons_succ, List.getElem_cons_zero, Act.put, List.setIfInBounds_toArray, List.set_cons_zero, List.set_cons_succ]
    refine wpAnyK_ready (rs := [9]) (by kernel_rfl) (by simp) ?_
    refine AllReadyK.cons rfl (fun K hK => ?_) AllReadyK.nil
    go_simp
    refine (clonei_w cb 0 1 2 _ (by decide) (by decide) (hcbT _ hE)).mono ?_
    rintro e Wi ⟨vi, rfl, hoi, hCi⟩
    have hE1 := hE.trans hCi
    obtain ⟨si, oi, ci, rfl, hsi, _⟩ := own_at hoi (by omega)
    obtain ⟨cur, rfl, hBi, _⟩ := own_blk hoi
    refine hK.out _ _ (hSx _ hE1) (fun hH => ?_)
    clear hK K
    try simp only [List.getElem_toArray, List.getElem_cons_succ, List.getElem_cons_zero, Act.put, List.setIfInBounds_toArray, List.set_cons_zero, List.set_cons_succ]
    refine wpAnyK_take (i := 12) (v := .agg #[.int .i64 3, .slice (some ⟨si, 0, none⟩) 1 ci, .bool false]) rfl (by kernel_rfl) (by kernel_rfl) (by kernel_rfl) (by kernel_rfl) (by decide) (fun _ _ _ h => h) (Or.inl ⟨by rfl, fun w' hw' => by go_simp⟩) hH ?_
    try simp only [List.getElem_toArray, List.getElem_cons_succ, List.getElem_cons_zero, Act.put, List.setIfInBounds_toArray, List.set_cons_zero, List.set_cons_succ]
    refine wpAnyK_ready (rs := [13]) (by kernel_rfl) (by simp) ?_
    refine AllReadyK.cons rfl (fun K hK => ?_) AllReadyK.nil
    go_simp
    have hE2 := hE1.alloc (.cells #[.int .i64 3, .slice (some ⟨si, 0, none⟩) 1 ci, .bool false] 41)
    refine hK.out _ _ (hSx _ hE2) (fun hH => ?_)
    clear hK K
    try simp only [List.getElem_toArray, List.getElem_cons_succ, List.getElem_cons_zero, Act.put, List.setIfInBounds_toArray, List.set_cons_zero, List.set_cons_succ]
    refine wpAnyK_ready (rs := [14]) (by kernel_rfl) (by simp) ?_
    refine AllReadyK.cons rfl (fun K hK => ?_) AllReadyK.nil
    rw [if_pos (by rfl)]
    obtain ⟨i0, hi0, hz0, hz1, hz2⟩ := info_parts info41
    refine wp_append_own _ _ _ 80 rfl w.heap.size 41 i0 _ 3 40 Tryz.underlying80 hi0 hz0 hz1 hz2 rfl (by decide) (.slice none 0 0) 0 [] rfl (World.ownsRow_nil _ _ _ _) ⟨Wi.heap.size, 0, none⟩ 1 1 [.int .i64 3, .slice (some ⟨si, 0, none⟩) 1 ci, .bool false] rfl rfl (fun j u hj => by rw [add_mk, Nat.zero_add, (Blk.new Wi 41 #[.int .i64 3, .slice (some ⟨si, 0, none⟩) 1 ci, .bool false]).cell, ← Array.getElem?_toList]; exact hj) (by simp [Value.oneCell']) (by decide) (by decide) (by have := (hCwT.trans hE2).size; exact this) ?_
    intro vx Wj hox hgj _
    have hCj : Chg [] (Wi.alloc (.cells #[.int .i64 3, .slice (some ⟨si, 0, none⟩) 1 ci, .bool false] 41)) Wj := (Chg.refl _ _).grown hgj (by intro k hk; cases hk)
    have hE3 := hE2.trans hCj
    have hBj := hBT.ext hE3
    refine hK.out _ _ (hSx _ hE3) (fun hH => ?_)
    clear hK K
    try simp only [List.getElem_toArray, List.getElem_cons_succ, List.getElem_cons_zero, Act.put, List.setIfInBounds_toArray, List.set_cons_zero, List.set_cons_succ]
    refine wpAnyK_ready (rs := [15]) (by kernel_rfl) (by simp) ?_
    refine AllReadyK.cons rfl (fun K hK => ?_) AllReadyK.nil
    go_simp
    refine hK.out _ _ (hSx _ hE3) (fun hH => ?_)
    clear hK K
    try simp only [List.getElem_toArray, List.getElem_cons_succ, List.getElem_cons_zero, Act.put, List.setIfInBounds_toArray, List.set_cons_zero, List.set_cons_succ]
    refine wpAnyK_take (i := 16) (v := .pointer (some ⟨bb, 3, none⟩)) rfl (by kernel_rfl) (by kernel_rfl) (by kernel_rfl) (by kernel_rfl) (by decide) (fun _ _ _ h => h) (Or.inl ⟨by rfl, fun w' hw' => by go_simp⟩) hH ?_
    try simp only [List.getElem_toArray, List.getElem_cons_succ, List.getElem_cons_zero, Act.put, List.setIfInBounds_toArray, List.set_cons_zero, List.set_cons_succ]
    refine wpAnyK_ready (rs := [17]) (by kernel_rfl) (by simp) ?_
    refine AllReadyK.last rfl (fun K hK => ?_)
    rw [if_pos (by rfl)]
    refine op_store_one 80 _ _ rfl bb 3 rfl vx rfl 91 _ hBj.b (by simp [baseC]) (by kernel_rfl) (own_one hox) ?_
    intro Wk hCk hsk hBk
    refine hK.out _ _ ?_
    clear hK K
    try simp only [List.getElem_toArray, List.getElem_cons_succ, List.getElem_cons_zero, Act.put, List.setIfInBounds_toArray, List.set_cons_zero, List.set_cons_succ]
    refine wpAnyK_done (by kernel_rfl) ?_ _
    have hBf := hBj.setx hCk hBk
    have hoi3 := own_ext (hoi.alloc _) hCj
    have hIf : IxS Wk vx si ci := ⟨⟨_, own_chg hox hCk (fun k hk hm => own_ne hox hBj.b (by decide) hk (by simpa using hm))⟩, ⟨_, own_chg hoi3 hCk (fun k hk hm => own_ne hoi3 hBj.b (by decide) hk (by simpa using hm))⟩⟩
    have hCf : Chg [] w Wk := (hCwT.trans hE3).on hCk (fun i hi => .inr (by simp at hi; omega))
    clear hSx hcbT hcbA
    go_wp2
    rw [rounds_succ]
    go_wp2
    go_ret2
    exact ⟨bb, mb, v1, v2, vx, si, ci, rfl, hbb2, hBf, hIf, hCf⟩

end Go.Proofs.YtpcaadipejnllaaGreatDoor

/- Two lists of rows are the same; bases. -/
set_option linter.unusedVariables false
set_option linter.unusedSimpArgs false
namespace Go.Proofs.YtpcaadipejnllaaGreatDoor
open Go.RowKit

set_option maxRecDepth 100000 in
set_option maxHeartbeats 4000000 in
theorem new_t (vk vr : Value) (w : World) (hK1 : KS w vk tT.k) (hK2 : KS w vr tT.r) :
    Calls Tryz.prog 6 #[.agg (tbV tT vk vr), .slice none 0 0] w fun e w' => ∃ bb mb v1 v2, e = .returned (.tuple #[.pointer (some ⟨bb, 0, none⟩), .int .i64 0]) ∧ w.heap.size ≤ bb ∧ BasS w' bb mb 0 tT v1 v2 (.slice none 0 0) (.slice none 0 0) [] ∧ Chg [] w w' := by
  have hC0 : Chg [] w (w.alloc (.cells (tbV tT vk vr) 37)) := (Chg.refl [] w).alloc _
  have hme := made_t vk vr _ (hK1.ext hC0) (hK2.ext hC0)
  have Hme := Lib.hid hme
  clear hme
  go_enter Tryz.func6, Tryz.ntmps6
  go_wp2_with (first
    | (refine wpList_load_rowg (by rfl) 37 (.tmp 2) rfl w.heap.size rfl 37 (tbV tT vk vr) (0, 0) _ (Blk.new w 37 _) Tryz.underlying37 rfl (by kernel_rfl) ?_)
    | (go_at_call 27; refine Hme.out.mono ?_; rintro e w1 ⟨bb, mb, v1, v2, rfl, hb, hS, hC⟩))
  go_ret2
  exact ⟨bb, mb, v1, v2, rfl, by simp at hb; omega, hS, hC0.trans hC⟩

set_option maxRecDepth 100000 in
set_option maxHeartbeats 4000000 in
theorem new_p (vk vr : Value) (lb cb : Nat) (w : World) (hK1 : KS w vk tP.k) (hK2 : KS w vr tP.r) (hL : Blk w lb 41 #[.int .i64 3, .slice (some ⟨cb, 0, none⟩) 1 1, .bool false]) (hcb : w.cell? ⟨cb, 0, none⟩ = some (.int .i64 2)) :
    Calls Tryz.prog 6 #[.agg (tbV tP vk vr), .slice (some ⟨lb, 0, none⟩) 1 1] w fun e w' => ∃ bb mb v1 v2 vx cb' cc, e = .returned (.tuple #[.pointer (some ⟨bb, 0, none⟩), .int .i64 0]) ∧ w.heap.size ≤ bb ∧ BasS w' bb mb 0 tP v1 v2 vx (.slice none 0 0) [] ∧ IxS w' vx cb' cc ∧ Chg [] w w' := by
  have hC0 : Chg [] w (w.alloc (.cells (tbV tP vk vr) 37)) := (Chg.refl [] w).alloc _
  have hcl := block_lt_of_cell hcb
  have hme := made_p vk vr lb cb _ (hK1.ext hC0) (hK2.ext hC0) (hL.ext hC0) (by rw [hC0.cell hcl (by simp)]; exact hcb)
  have Hme := Lib.hid hme
  clear hme hcb
  go_enter Tryz.func6, Tryz.ntmps6
  go_wp2_with (first
    | (refine wpList_load_rowg (by rfl) 37 (.tmp 2) rfl w.heap.size rfl 37 (tbV tP vk vr) (0, 0) _ (Blk.new w 37 _) Tryz.underlying37 rfl (by kernel_rfl) ?_)
    | (go_at_call 27; refine Hme.out.mono ?_; rintro e w1 ⟨bb, mb, v1, v2, vx, cb', cc, rfl, hb, hS, hI, hC⟩))
  go_ret2
  exact ⟨bb, mb, v1, v2, vx, cb', cc, rfl, by simp at hb; omega, hS, hI, hC0.trans hC⟩

set_option maxRecDepth 100000 in
set_option maxHeartbeats 4000000 in
theorem same_w (base1 base2 : Nat) (v1 v2 : Value) (rows : List (List Cl)) (w : World) (h1 : RowsV w base1 v1 rows) (h2 : RowsV w base2 v2 rows) (hlr : ∀ r ∈ rows, r.length ≤ 100) (hl : rows.length ≤ 100) :
    Calls Tryz.prog 16 #[v1, v2] w fun e w' => e = .returned (.bool true) ∧ Chg [] w w' := by
  obtain ⟨A1, c1, rfl, _, _⟩ := h1.form
  obtain ⟨A2, c2, rfl, _, _⟩ := h2.form
  go_enter Tryz.func16, Tryz.ntmps16
  go_wp2
  go_loopw [5] (fun i wr => ∃ k : Nat, k ≤ rows.length ∧ i = .int .i64 k ∧ Chg [] w wr) (fun i _ => rows.length - (intOf i).toNat)
  case atStart => exact ⟨0, by omega, rfl, Chg.refl _ _⟩
  case round =>
    obtain ⟨k, hk, rfl, hC⟩ := hrel
    by_cases hk2 : k < rows.length
    · obtain ⟨r, hr⟩ : ∃ r, rows[k]? = some r := ⟨_, List.getElem?_eq_getElem hk2⟩
      obtain ⟨s1, o1, u1, B1, rfl, hs1, hu1, h4⟩ := (h1.ext hC).at_ hr
      obtain ⟨s2, o2, u2, B2, rfl, hs2, hu2, g4⟩ := (h2.ext hC).at_ hr
      have hS : ∀ W, Chg [] wr W → (W.cell? ⟨s1, o1 + k, none⟩ = some u1 ∧ W.cell? ⟨s2, o2 + k, none⟩ = some u2) := fun W hW => ⟨by rw [hW.cell hs1 (by simp)]; exact hu1, by rw [hW.cell hs2 (by simp)]; exact hu2⟩
      clear hu1 hu2
      go_upto_region 6 with fail
      try simp only [Act.put, List.setIfInBounds_toArray, List.set_cons_zero, List.set_cons_succ]
      go_cut [26] (fun v wx => v = .bool false ∧ Chg [] wr wx)
      case first =>
        refine wp_region_K (S := fun W => W.cell? ⟨s1, o1 + k, none⟩ = some u1 ∧ W.cell? ⟨s2, o2 + k, none⟩ = some u2) 99 (by kernel_rfl) (hS _ ((Chg.refl [] wr).drew)) (fun hH => ?_)
        refine wpAnyK_take (i := 0) (v := .slice (some ⟨s1, o1, none⟩) rows.length c1) rfl (by kernel_rfl) (by kernel_rfl) (by kernel_rfl) (by kernel_rfl) (by decide) (fun _ _ _ h => h) (Or.inl ⟨by rfl, fun w' hw' => by go_simp⟩) hH ?_
        try simp only [List.getElem_toArray, List.getElem_cons_succ, List.getElem_cons_zero, Act.put, List.setIfInBounds_toArray, List.set_cons_zero, List.set_cons_succ]
        refine wpAnyK_take (i := 1) (v := .int .i64 k) rfl (by kernel_rfl) (by kernel_rfl) (by kernel_rfl) (by kernel_rfl) (by decide) (fun _ _ _ h => h) (Or.inl ⟨by rfl, fun w' hw' => by go_simp⟩) hH ?_
        try simp only [List.getElem_toArray, List.getElem_cons_succ, List.getElem_cons_zero, Act.put, List.setIfInBounds_toArray, List.set_cons_zero, List.set_cons_succ]
        refine wpAnyK_take (i := 2) (v := .pointer (some ⟨s1, o1 + k, none⟩)) rfl (by kernel_rfl) (by kernel_rfl) (by kernel_rfl) (by kernel_rfl) (by decide) (fun _ _ _ h => h) (Or.inl ⟨by rfl, fun w' hw' => by go_simp⟩) hH ?_
        try simp only [List.getElem_toArray, List.getElem_cons_succ, List.getElem_cons_zero, Act.put, List.setIfInBounds_toArray, List.set_cons_zero, List.set_cons_succ]
        refine wpAnyK_take (i := 3) (v := u1) rfl (by kernel_rfl) (by kernel_rfl) (by kernel_rfl) (by kernel_rfl) (by decide) (fun _ _ _ h => h) (yieldsIf_load_cell (by rfl) 42 _ rfl (s1) (o1 + k) rfl _ (fun w' hw' => hw'.1) (fun w => Tryz.isAgg42 w)) hH ?_
        try simp only [List.getElem_toArray, List.getElem_cons_succ, List.getElem_cons_zero, Act.put, List.setIfInBounds_toArray, List.set_cons_zero, List.set_cons_succ]
        refine wpAnyK_take (i := 4) (v := .slice (some ⟨s2, o2, none⟩) rows.length c2) rfl (by kernel_rfl) (by kernel_rfl) (by kernel_rfl) (by kernel_rfl) (by decide) (fun _ _ _ h => h) (Or.inl ⟨by rfl, fun w' hw' => by go_simp⟩) hH ?_
        try simp only [List.getElem_toArray, List.getElem_cons_succ, List.getElem_cons_zero, Act.put, List.setIfInBounds_toArray, List.set_cons_zero, List.set_cons_succ]
        refine wpAnyK_take (i := 5) (v := .int .i64 k) rfl (by kernel_rfl) (by kernel_rfl) (by kernel_rfl) (by kernel_rfl) (by decide) (fun _ _ _ h => h) (Or.inl ⟨by rfl, fun w' hw' => by go_simp⟩) hH ?_
        try simp only [List.getElem_toArray, List.getElem_cons_succ, List.getElem_cons_zero, Act.put, List.setIfInBounds_toArray, List.set_cons_zero, List.set_cons_succ]
        refine wpAnyK_take (i := 6) (v := .pointer (some ⟨s2, o2 + k, none⟩)) rfl (by kernel_rfl) (by kernel_rfl) (by kernel_rfl) (by kernel_rfl) (by decide) (fun _ _ _ h => h) (Or.inl ⟨by rfl, fun w' hw' => by go_simp⟩) hH ?_
        try simp only [List.getElem_toArray, List.getElem_cons_succ, List.getElem_cons_zero, Act.put, List.setIfInBounds_toArray, List.set_cons_zero, List.set_cons_succ]
        refine wpAnyK_take (i := 7) (v := u2) rfl (by kernel_rfl) (by kernel_rfl) (by kernel_rfl) (by kernel_rfl) (by decide) (fun _ _ _ h => h) (yieldsIf_load_cell (by rfl) 42 _ rfl (s2) (o2 + k) rfl _ (fun w' hw' => hw'.2) (fun w => Tryz.isAgg42 w)) hH ?_
        try simp only [List.getElem_toArray, List.getElem_cons_succ, List.getElem_cons_zero, Act.put, List.setIfInBounds_toArray, List.set_cons_zero, List.set_cons_succ]
        refine wpAnyK_ready (rs := [8]) (by kernel_rfl) (by simp) ?_
        refine AllReadyK.cons rfl (fun K hK => ?_) AllReadyK.nil
        go_simp
        refine (equal_w r u1 u2 _ ((Sl.own h4).ext ((Chg.refl [] wr).drew)) ((Sl.own g4).ext ((Chg.refl [] wr).drew)) (hlr r (List.mem_of_getElem? hr))).mono ?_
        rintro e wn ⟨rfl, hCn⟩
        refine hK.out _ _ (hS _ (((Chg.refl [] wr).drew).trans hCn)) (fun hH => ?_)
        clear hK K
        try simp only [List.getElem_toArray, List.getElem_cons_succ, List.getElem_cons_zero, Act.put, List.setIfInBounds_toArray, List.set_cons_zero, List.set_cons_succ]
        refine wpAnyK_take (i := 9) (v := .bool false) rfl (by kernel_rfl) (by kernel_rfl) (by kernel_rfl) (by kernel_rfl) (by decide) (fun _ _ _ h => h) (Or.inl ⟨by rfl, fun w' hw' => by go_simp⟩) hH ?_
        try simp only [List.getElem_toArray, List.getElem_cons_succ, List.getElem_cons_zero, Act.put, List.setIfInBounds_toArray, List.set_cons_zero, List.set_cons_succ]
        refine wpAnyK_done (by kernel_rfl) ?_ _
        go_wp2_with fail
        go_meet
        exact ⟨rfl, ((Chg.refl [] wr).drew).trans hCn⟩
      case rest =>
        obtain ⟨rfl, hCo⟩ := hcut
        go_wp2
        go_roundw
        case rel => exact ⟨k + 1, by omega, by go_num, hC.trans hCo⟩
        case measure => simp [intOf]; omega
    · go_wp2
      go_ret
      exact ⟨rfl, hC⟩

end Go.Proofs.YtpcaadipejnllaaGreatDoor

/- The rows of a span in a tree. -/
set_option linter.unusedVariables false
set_option linter.unusedSimpArgs false
namespace Go.Proofs.YtpcaadipejnllaaGreatDoor
open Go.RowKit

set_option maxRecDepth 100000 in
set_option maxHeartbeats 4000000 in
theorem spanned_w (tb : Nat) (c0 : List Pr) (t : Tb) (vk vr : Value) (rows : List (List Cl)) (w : World) (hT : TreeS w tb c0) (hG : Gv w) (hto : t.Ok) (ht : t.n < 255) (hks : KS w vk t.k) (hrs : KS w vr t.r)
    (hsel : til ⟨#[UInt8.ofNat (t.n + 1)]⟩ (fil ⟨#[UInt8.ofNat t.n]⟩ c0) = rows.map fun l => (rkey t l, rval t l)) (hrows : ∀ l ∈ rows, RowOk t l ∧ (rkey t l).size ≤ 24 ∧ (rval t l).size ≤ 40) (hr2 : rows.length ≤ 24) :
    Calls Tryz.prog 14 #[.pointer (some ⟨tb, 0, none⟩), .agg (tbV t vk vr)] w fun e w' => ∃ v', e = .returned (.tuple #[v', .bool true]) ∧ RowsV w' w.heap.size v' rows ∧ Chg [] w w' := by
  have hC0 : Chg [] w (w.alloc (.cells (tbV t vk vr) 37)) := (Chg.refl [] w).alloc _
  have hPb := Blk.new w 37 (tbV t vk vr)
  obtain ⟨key, hkey⟩ : ∃ key : ByteArray, key = ⟨#[UInt8.ofNat t.n]⟩ := ⟨_, rfl⟩
  obtain ⟨high, hhigh⟩ : ∃ high : ByteArray, high = ⟨#[UInt8.ofNat (t.n + 1)]⟩ := ⟨_, rfl⟩
  have hsp := fun w h1 h2 hG => span_w t vk vr w hto ht h1 h2 hG
  rw [← hkey, ← hhigh] at hsp hsel
  have hra := fun w hT => range_w tb c0 key high (by rw [hkey]; show 1 ≤ 24; omega) (by rw [hhigh]; show 1 ≤ 24; omega) (by rw [hhigh, ByteArray.toList_eq]; rfl) (by rw [hsel, List.length_map]; exact hr2) w hT
  rw [hsel, List.length_map] at hra
  have Hsp := Lib.hid hsp
  have Hra := Lib.hid hra
  have Hrows := Lib.hid hrows
  have hT0 := hT.ext hC0
  have hG0 := hG.chg hC0 (by simp)
  obtain ⟨pb, hpb⟩ : ∃ pb, pb = w.heap.size := ⟨_, rfl⟩
  clear hsp hra hrows hsel hkey hhigh hT
  go_enter Tryz.func14, Tryz.ntmps14
  go_wp2_with (first
    | (refine wpList_load_rowg (by rfl) 37 (.tmp 3) rfl w.heap.size rfl 37 (tbV t vk vr) (0, 0) _ hPb Tryz.underlying37 rfl (by kernel_rfl) ?_)
    | (go_at_call 43; refine (Hsp.out _ (hks.ext hC0) (hrs.ext hC0) hG0).mono ?_; rintro e w1 ⟨rfl, hC1⟩)
    | (go_at_call 44; refine (Hra.out _ (hT0.ext hC1)).mono ?_; rintro e w2 ⟨vl, rfl, hol, hC2⟩; obtain ⟨A, c, rfl, hc1, hc2⟩ := (Sl.own hol).form))
  have hC12 := (hC0.trans hC1).trans hC2
  rw [← hpb] at hPb
  have hP2 := (hPb.ext hC1).ext hC2
  have hgood : w.heap.size ≤ w2.heap.size := hC12.size
  rw [← hpb]
  clear hpb
  go_loopw [10, 11] (fun v i wr => ∃ (k : Nat) (vo : Value), vo = v ∧ k ≤ rows.length ∧ i = .int .i64 k ∧ RowsV wr w2.heap.size vo (rows.take k) ∧ Chg [] w2 wr) (fun _ i _ => rows.length - (intOf i).toNat)
  case atStart => exact ⟨0, _, rfl, Nat.zero_le _, rfl, RowsV.nil _ _, Chg.refl _ _⟩
  case round =>
    obtain ⟨k, vo, rfl, hk, rfl, ho, hC⟩ := hrel
    by_cases hlt : k < rows.length
    · obtain ⟨l, hl⟩ : ∃ l, rows[k]? = some l := ⟨_, List.getElem?_eq_getElem hlt⟩
      obtain ⟨hl1, hl2, hl3⟩ := Hrows.out l (List.mem_of_getElem? hl)
      obtain ⟨s, o, c', e, hs, hxc⟩ := own_at hol (by omega)
      injection e with e1 e2 e3
      subst e1 e3
      have hr := fun W (hW : Chg [] w2 W) => prs_rng (w := W) (l := rows.map fun l => (rkey t l, rval t l)) (k := k) (x := (rkey t l, rval t l)) (fun j hj => by rw [hW.cell hs (by simp)]; exact hxc j (by simpa using hj)) (by rw [List.getElem?_map, hl]; rfl)
      have hts : rows.take (k + 1) = rows.take k ++ [l] := take_one rows k l hl
      have hll : (rows.take k).length ≤ 2000 := by have h2 : (rows.take k).length ≤ k := List.length_take_le _ _; omega
      have hCA := hC12.trans hC
      have hks := hks.ext hCA
      have hrs := hrs.ext hCA
      have hGw := hG.chg hCA (by simp)
      have hPr := hP2.ext hC
      have hSr : ∀ W, Chg [] wr W → (W.rangeAt pb 0 (tbV t vk vr).toList ∧ W.cell? ⟨s, o + k * 2, none⟩ = some (.string (rkey t l)) ∧ W.cell? ⟨s, o + k * 2 + 1, none⟩ = some (.string (rval t l))) := fun W hW =>
        ⟨fun j u hj => by rw [Nat.zero_add, (hPr.ext hW).cell, ← Array.getElem?_toList]; exact hj, by have := hr W (hC.trans hW) 0 _ rfl; rwa [Nat.add_zero] at this, hr W (hC.trans hW) 1 _ rfl⟩
      have hD0 : Chg [] wr wr.drew := (Chg.refl _ _).drew
      have Hts := Lib.hid hts
      have Hl := Lib.hid hl
      have Hr := Lib.hid hr
      have HP := Lib.hid hPr
      clear hts hl hxc hr e2 hPr
      go_upto_region 11 with fail
      try simp only [Act.put, List.setIfInBounds_toArray, List.set_cons_zero, List.set_cons_succ]
      go_cut [12, 13] (fun v e wx => ∃ Au cu B, v = .slice Au l.length cu ∧ e = .int .i64 0 ∧ wx.ownsRow B 62 5 (.slice Au l.length cu) l.length (cls l) ∧ Chg [] wr wx)
      case first =>
        refine wp_region_K (S := fun W => W.rangeAt pb 0 (tbV t vk vr).toList ∧ W.cell? ⟨s, o + k * 2, none⟩ = some (.string (rkey t l)) ∧ W.cell? ⟨s, o + k * 2 + 1, none⟩ = some (.string (rval t l))) 99 (by kernel_rfl) (hSr _ hD0) (fun hH => ?_)
        refine wpAnyK_take (i := 0) rfl (by kernel_rfl) (by kernel_rfl) (by kernel_rfl) (by kernel_rfl) (by decide) (fun _ _ _ h => h) (yieldsIf_load_mid (by rfl) _ _ rfl (pb) (0) rfl ((tbV t vk vr).toList) _ (fun w' hw' => hw'.1) Tryz.underlying37 rfl (by kernel_rfl)) hH ?_
        try simp only [List.getElem_toArray, List.getElem_cons_succ, List.getElem_cons_zero, Act.put, List.setIfInBounds_toArray, List.set_cons_zero, List.set_cons_succ]
        refine wpAnyK_take (i := 1) (v := .slice (some ⟨s, o, none⟩) rows.length c) rfl (by kernel_rfl) (by kernel_rfl) (by kernel_rfl) (by kernel_rfl) (by decide) (fun _ _ _ h => h) (Or.inl ⟨by rfl, fun w' hw' => by go_simp⟩) hH ?_
        try simp only [List.getElem_toArray, List.getElem_cons_succ, List.getElem_cons_zero, Act.put, List.setIfInBounds_toArray, List.set_cons_zero, List.set_cons_succ]
        refine wpAnyK_take (i := 2) (v := .int .i64 k) rfl (by kernel_rfl) (by kernel_rfl) (by kernel_rfl) (by kernel_rfl) (by decide) (fun _ _ _ h => h) (Or.inl ⟨by rfl, fun w' hw' => by go_simp⟩) hH ?_
        try simp only [List.getElem_toArray, List.getElem_cons_succ, List.getElem_cons_zero, Act.put, List.setIfInBounds_toArray, List.set_cons_zero, List.set_cons_succ]
        refine wpAnyK_take (i := 3) (v := .pointer (some ⟨s, o + k * 2, none⟩)) rfl (by kernel_rfl) (by kernel_rfl) (by kernel_rfl) (by kernel_rfl) (by decide) (fun _ _ _ h => h) (Or.inl ⟨by rfl, fun w' hw' => by go_simp⟩) hH ?_
        try simp only [List.getElem_toArray, List.getElem_cons_succ, List.getElem_cons_zero, Act.put, List.setIfInBounds_toArray, List.set_cons_zero, List.set_cons_succ]
        refine wpAnyK_take (i := 4) (v := .pointer (some ⟨s, o + k * 2, none⟩)) rfl (by kernel_rfl) (by kernel_rfl) (by kernel_rfl) (by kernel_rfl) (by decide) (fun _ _ _ h => h) (Or.inl ⟨by rfl, fun w' hw' => by go_simp⟩) hH ?_
        try simp only [List.getElem_toArray, List.getElem_cons_succ, List.getElem_cons_zero, Act.put, List.setIfInBounds_toArray, List.set_cons_zero, List.set_cons_succ]
        refine wpAnyK_take (i := 5) (v := .string (rkey t l)) rfl (by kernel_rfl) (by kernel_rfl) (by kernel_rfl) (by kernel_rfl) (by decide) (fun _ _ _ h => h) (yieldsIf_load_cell (by rfl) 9 _ rfl (s) (o + k * 2) rfl _ (fun w' hw' => hw'.2.1) (fun w => Tryz.isAgg9 w)) hH ?_
        try simp only [List.getElem_toArray, List.getElem_cons_succ, List.getElem_cons_zero, Act.put, List.setIfInBounds_toArray, List.set_cons_zero, List.set_cons_succ]
        refine wpAnyK_take (i := 6) (v := .slice (some ⟨s, o, none⟩) rows.length c) rfl (by kernel_rfl) (by kernel_rfl) (by kernel_rfl) (by kernel_rfl) (by decide) (fun _ _ _ h => h) (Or.inl ⟨by rfl, fun w' hw' => by go_simp⟩) hH ?_
        try simp only [List.getElem_toArray, List.getElem_cons_succ, List.getElem_cons_zero, Act.put, List.setIfInBounds_toArray, List.set_cons_zero, List.set_cons_succ]
        refine wpAnyK_take (i := 7) (v := .int .i64 k) rfl (by kernel_rfl) (by kernel_rfl) (by kernel_rfl) (by kernel_rfl) (by decide) (fun _ _ _ h => h) (Or.inl ⟨by rfl, fun w' hw' => by go_simp⟩) hH ?_
        try simp only [List.getElem_toArray, List.getElem_cons_succ, List.getElem_cons_zero, Act.put, List.setIfInBounds_toArray, List.set_cons_zero, List.set_cons_succ]
        refine wpAnyK_take (i := 8) (v := .pointer (some ⟨s, o + k * 2, none⟩)) rfl (by kernel_rfl) (by kernel_rfl) (by kernel_rfl) (by kernel_rfl) (by decide) (fun _ _ _ h => h) (Or.inl ⟨by rfl, fun w' hw' => by go_simp⟩) hH ?_
        try simp only [List.getElem_toArray, List.getElem_cons_succ, List.getElem_cons_zero, Act.put, List.setIfInBounds_toArray, List.set_cons_zero, List.set_cons_succ]
        refine wpAnyK_take (i := 9) (v := .pointer (some ⟨s, o + k * 2 + 1, none⟩)) rfl (by kernel_rfl) (by kernel_rfl) (by kernel_rfl) (by kernel_rfl) (by decide) (fun _ _ _ h => h) (Or.inl ⟨by rfl, fun w' hw' => by go_simp⟩) hH ?_
        try simp only [List.getElem_toArray, List.getElem_cons_succ, List.getElem_cons_zero, Act.put, List.setIfInBounds_toArray, List.set_cons_zero, List.set_cons_succ]
        refine wpAnyK_take (i := 10) (v := .string (rval t l)) rfl (by kernel_rfl) (by kernel_rfl) (by kernel_rfl) (by kernel_rfl) (by decide) (fun _ _ _ h => h) (yieldsIf_load_cell (by rfl) 9 _ rfl (s) (o + k * 2 + 1) rfl _ (fun w' hw' => hw'.2.2) (fun w => Tryz.isAgg9 w)) hH ?_
        try simp only [List.getElem_toArray, List.getElem_cons_succ, List.getElem_cons_zero, Act.put, List.setIfInBounds_toArray, List.set_cons_zero, List.set_cons_succ]
        refine wpAnyK_ready (rs := [11]) (by kernel_rfl) (by simp) ?_
        refine AllReadyK.cons rfl (fun K hK => ?_) AllReadyK.nil
        go_simp
        refine (read_row t vk vr l _ hl1 (hks.ext hD0) (hrs.ext hD0) (hGw.chg hD0 (by simp)) hl2 hl3).mono ?_
        rintro e W1 ⟨u, rfl, hu, hC2⟩
        have hD1 := hD0.trans hC2
        obtain ⟨Au, cu, rfl, hcu, hcm⟩ := (Sl.own hu).form
        refine hK.out _ _ (hSr _ hD1) (fun hH => ?_)
        clear hK K
        try simp only [List.getElem_toArray, List.getElem_cons_succ, List.getElem_cons_zero, Act.put, List.setIfInBounds_toArray, List.set_cons_zero, List.set_cons_succ]
        refine wpAnyK_take (i := 12) (v := .tuple #[.slice Au l.length cu, .int .i64 0]) rfl (by kernel_rfl) (by kernel_rfl) (by kernel_rfl) (by kernel_rfl) (by decide) (fun _ _ _ h => h) (Or.inl ⟨by rfl, fun w' hw' => by go_simp⟩) hH ?_
        try simp only [List.getElem_toArray, List.getElem_cons_succ, List.getElem_cons_zero, Act.put, List.setIfInBounds_toArray, List.set_cons_zero, List.set_cons_succ]
        refine wpAnyK_take (i := 13) (v := .slice Au l.length cu) rfl (by kernel_rfl) (by kernel_rfl) (by kernel_rfl) (by kernel_rfl) (by decide) (fun _ _ _ h => h) (Or.inl ⟨by rfl, fun w' hw' => by go_simp⟩) hH ?_
        try simp only [List.getElem_toArray, List.getElem_cons_succ, List.getElem_cons_zero, Act.put, List.setIfInBounds_toArray, List.set_cons_zero, List.set_cons_succ]
        refine wpAnyK_take (i := 14) (v := .int .i64 0) rfl (by kernel_rfl) (by kernel_rfl) (by kernel_rfl) (by kernel_rfl) (by decide) (fun _ _ _ h => h) (Or.inl ⟨by rfl, fun w' hw' => by go_simp⟩) hH ?_
        try simp only [List.getElem_toArray, List.getElem_cons_succ, List.getElem_cons_zero, Act.put, List.setIfInBounds_toArray, List.set_cons_zero, List.set_cons_succ]
        refine wpAnyK_take (i := 15) (v := .slice Au l.length cu) rfl (by kernel_rfl) (by kernel_rfl) (by kernel_rfl) (by kernel_rfl) (by decide) (fun _ _ _ h => h) (Or.inl ⟨by rfl, fun w' hw' => by go_simp⟩) hH ?_
        try simp only [List.getElem_toArray, List.getElem_cons_succ, List.getElem_cons_zero, Act.put, List.setIfInBounds_toArray, List.set_cons_zero, List.set_cons_succ]
        refine wpAnyK_take (i := 16) (v := .int .i64 0) rfl (by kernel_rfl) (by kernel_rfl) (by kernel_rfl) (by kernel_rfl) (by decide) (fun _ _ _ h => h) (Or.inl ⟨by rfl, fun w' hw' => by go_simp⟩) hH ?_
        try simp only [List.getElem_toArray, List.getElem_cons_succ, List.getElem_cons_zero, Act.put, List.setIfInBounds_toArray, List.set_cons_zero, List.set_cons_succ]
        refine wpAnyK_done (by kernel_rfl) ?_ _
        go_wp2_with fail
        go_meet
        exact ⟨Au, cu, wr.heap.size, rfl, rfl, hu, hD1⟩
      case rest =>
        obtain ⟨Au, cu, B, rfl, rfl, hu, hCo⟩ := hcut
        obtain ⟨wo, hwo⟩ : ∃ wo, wo = wc := ⟨_, rfl⟩
        rw [← hwo] at hu hCo ⊢
        clear hwo
        have ho1 := ho.ext hCo
        have hbw : w2.heap.size ≤ (wo.alloc (.cells #[.slice Au l.length cu] 42)).heap.size := by have := (hC.trans hCo).size; simp; omega
        go_wp2_with (first
          | (at_builtin; go_loud (refine wpList_append_rw rfl _ _ rfl w2.heap.size vo (rows.take k) rfl (ho1.ext ((Chg.refl [] wo).alloc _)) wo.heap.size l (.slice Au l.length cu) B rfl (Blk.new wo 42 _) (own_ext hu ((Chg.refl [] wo).alloc _)) hll hbw ?_); intro v3 w3 ho3 hC3))
        go_roundw
        case rel =>
          refine ⟨k + 1, v3, rfl, by omega, by go_num, by rw [Hts.out]; exact ho3, ((hC.trans hCo).alloc _).on hC3 (fun i hi => .inr (ho1.lt i (by simpa using hi)).1)⟩
        case measure => simp [intOf]; omega
    · obtain rfl : k = rows.length := by omega
      rw [List.take_of_length_le (Nat.le_refl _)] at ho
      go_wp2
      go_ret2
      exact ⟨vo, rfl, ho.lower hgood, hC12.trans hC⟩

end Go.Proofs.YtpcaadipejnllaaGreatDoor

/- A row put into the bases; the rows of a span. -/
set_option linter.unusedVariables false
set_option linter.unusedSimpArgs false
namespace Go.Proofs.YtpcaadipejnllaaGreatDoor
open Go.RowKit

theorem til_filter {h : ByteArray} : ∀ {l : List Pr}, Srt l → til h l = l.filter (lo h)
  | [], _ => rfl
  | y :: l, hs => by
    by_cases hy : lo h y = true
    · rw [til, List.takeWhile_cons_of_pos hy, List.filter_cons_of_pos hy, ← til, til_filter hs.tail]
    · rw [til, List.takeWhile_cons_of_neg (by simpa using hy), List.filter_cons_of_neg (by simpa using hy)]
      symm
      rw [List.filter_eq_nil_iff]
      intro z hz hlz
      have h1 := hs.head hz
      unfold lo at hy hlz
      have h2 : cmpS z.1 h < 0 := by simpa using hlz
      exact hy (by simpa using cmp_lt_le h1 (by omega))
theorem til_sel {c : List Pr} (h : Srt c) (b : Nat) : til (one (b + 1)) (fil (one b) c) = sel b c := by
  have hs : Srt (fil (one b) c) := h.filter _
  rw [til_filter hs]
  unfold fil sel
  rw [List.filter_filter]
  congr 1
  funext x
  unfold selq lo
  rw [Bool.and_comm]

section
variable {bb mb base cb cc Bu : Nat} {vk vr vx v u : Value} {L : List Pr} {p : Per} {w : World}
theorem bput_p {M : List Per} (hA : BaseA M L) (hM : Ppl M) (h : BasS w bb mb base tP vk vr vx v L) (hi : IxS w vx cb cc) (hp : p.Ok) (hu : w.ownsRow Bu 62 5 u 3 (cls (rP p))) (hG : Gv w) (hn : L.length ≤ 800) :
    Calls Tryz.prog 13 #[.pointer (some ⟨bb, 0, none⟩), u] w fun e w' => ∃ mb' base' v' L', e = .returned (.int .i64 0) ∧ BasS w' bb mb' base' tP vk vr vx v' L' ∧ BaseA (upP p M) L' ∧ Chg [bb] w w' := by
  by_cases hq : ∃ q ∈ M, q.id = p.id
  · obtain ⟨q, hqM, hqi⟩ := hq
    have ho := fun x => hA.out hM hqM x
    rw [hqi] at ho
    have hg := out_gone hM hp ho
    refine (bput_p1 bb mb base vk vr vx v L cb cc p Bu u w q h hi hp (hM.ok q hqM) (prP_same hqi) ((hA.mem _).2 (.inl ⟨q, hqM, rfl⟩)) ((hA.mem _).2 (.inr ⟨q, hqM, rfl⟩)) hu hG hn hg).mono ?_
    rintro e w1 ⟨mb', base', v', rfl, h1, h2⟩
    exact ⟨mb', base', v', _, rfl, h1, out_up ((hA.srt.filter _).filter _) hM hp ho, h2⟩
  · have hno : ∀ q ∈ M, q.id ≠ p.id := fun q hqM e => hq ⟨q, hqM, e⟩
    have ho := fun x => hA.none hno x
    refine (bput_p0 bb mb base vk vr vx v L cb cc p Bu u w h hi hp hu hG hn (out_gone hM hp ho)).mono ?_
    rintro e w1 ⟨mb', base', v', rfl, h1, h2⟩
    exact ⟨mb', base', v', _, rfl, h1, out_up hA.srt hM hp ho, h2⟩
theorem bput_t {N : List Per} (hB : BaseB N L) (hN : Twn N) (h : BasS w bb mb base tT vk vr (.slice none 0 0) v L) (hp : p.Ok) (hu : w.ownsRow Bu 62 5 u 2 (cls (rT p))) (hG : Gv w) (hn : L.length ≤ 800) :
    Calls Tryz.prog 13 #[.pointer (some ⟨bb, 0, none⟩), u] w fun e w' => ∃ mb' base' v' L', e = .returned (.int .i64 0) ∧ BasS w' bb mb' base' tT vk vr (.slice none 0 0) v' L' ∧ BaseB (upT p N) L' ∧ Chg [bb] w w' := by
  by_cases hq : ∃ q ∈ N, q.nm = p.nm
  · obtain ⟨q, hqN, hqi⟩ := hq
    have e := prT_same hqi
    refine (bput_t1 bb mb base vk vr v L p Bu u w q h hp (hN.ok q hqN) e ((hB.mem _).2 ⟨q, hqN, rfl⟩) hu hG hn (fun x hx => ?_)).mono ?_
    · rw [rmv_mem] at hx
      rw [← e]; exact hx.2
    rintro e w1 ⟨mb', base', v', rfl, h1, h2⟩
    refine ⟨mb', base', v', _, rfl, h1, ?_, h2⟩
    rw [prT_same hqi]
    exact hB.up
  · have hno : ∀ x ∈ L, x.1 ≠ (prT p).1 := fun x hx e => by
      obtain ⟨q, hqN, rfl⟩ := (hB.mem _).1 hx
      exact hq ⟨q, hqN, prT_inj e⟩
    refine (bput_t0 bb mb base vk vr v L p Bu u w h hp hu hG hn hno).mono ?_
    rintro e w1 ⟨mb', base', v', rfl, h1, h2⟩
    refine ⟨mb', base', v', _, rfl, h1, ?_, h2⟩
    have := hB.up (p := p)
    rwa [rmv_id hno] at this
end

end Go.Proofs.YtpcaadipejnllaaGreatDoor
