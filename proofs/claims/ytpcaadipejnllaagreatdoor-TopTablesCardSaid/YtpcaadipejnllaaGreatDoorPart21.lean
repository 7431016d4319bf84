/- A part of a tree. -/
import Derived.Test.YtpcaadipejnllaaGreatDoorPart19
import Derived.Test.YtpcaadipejnllaaGreatDoorPart17
import Derived.Test.YtpcaadipejnllaaGreatDoorPart20
import Derived.Maps.AppendAt

set_option linter.unusedVariables false
set_option linter.unusedSimpArgs false
namespace Go.Proofs.YtpcaadipejnllaaGreatDoor
open Go.RowKit Go.Shelf

theorem ArS.ne158 {W : World} {ba bm bw fr rt p : Nat} {pgs : Nat → List Nat} {cs : Array Value} (h : ArS W ba bm bw fr rt pgs) (hT : Blk W p 158 cs) : ba ≠ p ∧ bm ≠ p ∧ bw ≠ p := by
  obtain ⟨ws, h1, h2⟩ := h
  obtain ⟨_, _, h3, h4, _⟩ := h1.m.hd
  exact ⟨h1.a.ne_ hT (by decide), h3.ne_ hT (by decide), h4.ne_ hT (by decide)⟩

set_option maxRecDepth 100000 in
set_option maxHeartbeats 4000000 in
theorem from_w (ba p : Nat) (key : ByteArray) (w : World) :
    Calls Tryz.prog 124 #[.pointer (some ⟨ba, 0, none⟩), .int .i64 p, .string key] w fun e w' => ∃ b1 b2 b3, e = .returned (.func (.func 160) #[] #[.pointer (some ⟨b1, 0, none⟩), .pointer (some ⟨b2, 0, none⟩), .pointer (some ⟨b3, 0, none⟩)]) ∧ w.heap.size ≤ b1 ∧ w.heap.size ≤ b2 ∧ w.heap.size ≤ b3 ∧ Blk w' b1 3 #[.int .i64 p] ∧ Blk w' b2 64 #[.pointer (some ⟨ba, 0, none⟩)] ∧ Blk w' b3 9 #[.string key] ∧ Chg [] w w' := by
  go_enter Tryz.func124, Tryz.ntmps124
  go_wp2
  go_ret
  simp only [World.size_alloc]
  refine ⟨_, _, _, rfl, by omega, by omega, by omega, (Blk.newEq (by simp)).alloc _, ((Blk.newEq (by simp)).alloc _).alloc _, Blk.newEq (by simp), (((Chg.refl _ _).alloc _).alloc _).alloc _⟩

set_option maxRecDepth 100000 in
set_option maxHeartbeats 4000000 in
theorem tarena2 (tb ba bm bw fr rt : Nat) (pgs : Nat → List Nat) (ls : List Lf) (fl : List Nat) (w : World) (hT : Blk w tb 78 #[.pointer (some ⟨ba, 0, none⟩), .int .i64 (flat ls).length]) (hA : ArS w ba bm bw fr rt pgs) (hP : TreeP fr rt pgs ls fl) :
    Calls Tryz.prog 21 #[.pointer (some ⟨tb, 0, none⟩)] w fun e w' => ∃ ba' bm' bw', e = .returned (.pointer (some ⟨ba', 0, none⟩)) ∧ w.heap.size ≤ ba' ∧ w.heap.size ≤ bm' ∧ w.heap.size ≤ bw' ∧ ArS w' ba' bm' bw' fr rt pgs ∧ Chg [] w w' := by
  have hTS : TreeS w tb (flat ls) := ⟨ba, bm, bw, fr, rt, pgs, ls, fl, hT, hA, hP, rfl⟩
  have c0 := hT.cell 0
  go_enter Tryz.func21, Tryz.ntmps21
  go_wp2_with (first
    | (go_at_call 51; refine (tree_none_w tb _ _ hTS).mono ?_; rintro e w1 ⟨rfl, rfl⟩)
    | (go_at_call 56; refine (arena_copy ba bm bw fr rt pgs _ hA).mono ?_; rintro e w1 ⟨ba', bm', bw', rfl, hx1, hx2, hx3, hA2, hC⟩))
  go_ret
  exact ⟨ba', bm', bw', rfl, hx1, hx2, hx3, hA2, hC⟩

/-- What a part hands back. -/
def PartR (fr rt : Nat) (pgs : Nat → List Nat) (ls : List Lf) (key high : ByteArray) (w : World) (b1 b2 b3 b5 b10 ba' bm' bw' : Nat) (w' : World) : Prop :=
  (w.heap.size ≤ b1 ∧ w.heap.size ≤ b2 ∧ w.heap.size ≤ b3 ∧ w.heap.size ≤ b5 ∧ w.heap.size ≤ b10 ∧ w.heap.size ≤ ba' ∧ w.heap.size ≤ bm' ∧ w.heap.size ≤ bw') ∧
  Blk w' b2 64 #[.pointer (some ⟨ba', 0, none⟩)] ∧ Blk w' b3 9 #[.string key] ∧ Blk w' b5 9 #[.string high] ∧ Blk w' b10 158 #[.func (.func 160) #[] #[.pointer (some ⟨b1, 0, none⟩), .pointer (some ⟨b2, 0, none⟩), .pointer (some ⟨b3, 0, none⟩)]] ∧ ArS w' ba' bm' bw' fr rt pgs ∧ Chg [] w w' ∧
  ∃ A z B, ls = A ++ ([z] ++ B) ∧ (∀ y ∈ flat A, cmpS y.1 key < 0) ∧ Blk w' b1 3 #[.int .i64 (z.p : Nat)]

set_option maxRecDepth 100000 in
set_option maxHeartbeats 4000000 in
theorem part_w (tb ba bm bw fr rt : Nat) (pgs : Nat → List Nat) (ls : List Lf) (fl : List Nat) (key high : ByteArray) (hk : key.size ≤ 24) (hh : high.size ≤ 24) (w : World) (hT : Blk w tb 78 #[.pointer (some ⟨ba, 0, none⟩), .int .i64 (flat ls).length]) (hA : ArS w ba bm bw fr rt pgs) (hP : TreeP fr rt pgs ls fl) :
    Calls Tryz.prog 89 #[.pointer (some ⟨tb, 0, none⟩), .string key, .string high] w fun e w' => ∃ b1 b2 b3 b5 b10 ba' bm' bw', e = .returned (.tuple #[.func (.func 125) #[] #[.pointer (some ⟨b10, 0, none⟩), .pointer (some ⟨b5, 0, none⟩)], .int .i64 0]) ∧ PartR fr rt pgs ls key high w b1 b2 b3 b5 b10 ba' bm' bw' w' := by
  have hp := fun w hT hA => path_w tb ba bm bw fr rt pgs ls fl key w hT hA hP
  go_enter Tryz.func89, Tryz.ntmps89
  go_upto_region 6 with (first
    | (go_at_call 123; refine (hp _ (hT.alloc _) (hA.ext ((Chg.refl [] w).alloc _))).mono ?_; rintro e w1 ⟨s, o, k, c, A, B, z, rfl, hk1, hkc, hc, hcell, hls, hund, hC1⟩; have hB5 := (Blk.new w 9 #[.string high]).ext hC1; have h5 : w1.cell? ⟨w.heap.size, 0, none⟩ = some (.string high) := hB5.cell 0))
  rcases (by omega : k = 0 ∨ k = 1) with rfl | rfl
  · have hC1w : Chg [] w w1 := ((Chg.refl [] w).alloc _).trans hC1
    have hTw := hT.ext hC1w
    have hAw := hA.ext hC1w
    have hsl := block_lt_of_cell hcell
    have hc1 : 1 ≤ c := by omega
    have hSc : ∀ W, Chg [] w1 W → W.cell? ⟨s, o + 0, none⟩ = some (.int .i64 z.p) := fun W hW => by rw [hW.cell hsl (by simp)]; exact hcell
    have Hls := Lib.hid hls
    have Hund := Lib.hid hund
    have hsz := hC1w.size
    clear hcell hls hund hk1 hkc h5 hp
    simp only [Nat.zero_add, Nat.reduceAdd, Nat.add_zero, Int.cast_ofNat_Int] at hSc ⊢
    try simp only [Act.put, List.setIfInBounds_toArray, List.set_cons_zero, List.set_cons_succ]
    go_cut [10] (fun v wx => ∃ b1 b2 b3 b10 ba' bm' bw', v = .pointer (some ⟨b10, 0, none⟩) ∧ PartR fr rt pgs ls key high w b1 b2 b3 w.heap.size b10 ba' bm' bw' wx)
    case first =>
      have hfin : ∀ p b1 b2 b3 ba2 bm2 bw2 Y wk cs, Blk Y p 158 cs → Blk Y b1 3 #[.int .i64 z.p] → Blk Y b2 64 #[.pointer (some ⟨ba2, 0, none⟩)] → Blk Y b3 9 #[.string key] → ArS Y ba2 bm2 bw2 fr rt pgs → Chg [] w1 Y → Chg [p] Y wk → Blk wk p 158 #[.func (.func 160) #[] #[.pointer (some ⟨b1, 0, none⟩), .pointer (some ⟨b2, 0, none⟩), .pointer (some ⟨b3, 0, none⟩)]] → (w1.heap.size ≤ b1 ∧ w1.heap.size ≤ b2 ∧ w1.heap.size ≤ b3 ∧ w1.heap.size ≤ p ∧ w1.heap.size ≤ ba2 ∧ w1.heap.size ≤ bm2 ∧ w1.heap.size ≤ bw2) → ∃ b1 b2 b3 b10 ba' bm' bw', Value.pointer (some ⟨p, 0, none⟩) = .pointer (some ⟨b10, 0, none⟩) ∧ PartR fr rt pgs ls key high w b1 b2 b3 w.heap.size b10 ba' bm' bw' wk := fun p b1 b2 b3 ba2 bm2 bw2 Y wk cs qp q1 q2 q3 q4 q5 q6 q7 ⟨g1, g2, g3, g4, g5, g6, g7⟩ => by
        have n1 := q1.ne_ qp (by decide)
        have n2 := q2.ne_ qp (by decide)
        have n3 := q3.ne_ qp (by decide)
        obtain ⟨m1, m2, m3⟩ := q4.ne158 qp
        have hC9 := q5.on q6 (fun i hi => .inr (by simp at hi; omega))
        exact ⟨b1, b2, b3, p, ba2, bm2, bw2, rfl, ⟨by omega, by omega, by omega, Nat.le_refl _, by omega, by omega, by omega, by omega⟩, q2.chg q6 (by simpa using n2), q3.chg q6 (by simpa using n3), hB5.ext hC9, q7, q4.chg q6 (by simpa using m1) (by simpa using m2) (by simpa using m3), hC1w.trans hC9, A, z, B, Hls.out, Hund.out, q1.chg q6 (by simpa using n1)⟩
      refine wp_region_K (S := fun W => W.cell? ⟨s, o + 0, none⟩ = some (.int .i64 z.p)) 11 (by kernel_rfl) (hSc _ ((Chg.refl [] w1).drew)) (fun hH => ?_)
      refine wpAnyK_take (i := 0) (v := .pointer (some ⟨tb, 0, none⟩)) rfl (by kernel_rfl) (by kernel_rfl) (by kernel_rfl) (by kernel_rfl) (by decide) (fun _ _ _ h => h) (Or.inl ⟨by rfl, fun w' hw' => by go_simp⟩) hH ?_
      try simp only [List.getElem_toArray, List.getElem_cons_succ, List.getElem_cons_zero, Act.put, List.setIfInBounds_toArray, List.set_cons_zero, List.set_cons_succ]
      refine wpAnyK_take (i := 2) (v := .slice (some ⟨s, o, none⟩) 1 c) rfl (by kernel_rfl) (by kernel_rfl) (by kernel_rfl) (by kernel_rfl) (by decide) (fun _ _ _ h => h) (Or.inl ⟨by rfl, fun w' hw' => by go_simp⟩) hH ?_
      try simp only [List.getElem_toArray, List.getElem_cons_succ, List.getElem_cons_zero, Act.put, List.setIfInBounds_toArray, List.set_cons_zero, List.set_cons_succ]
      refine wpAnyK_take (i := 3) (v := .slice (some ⟨s, o, none⟩) 1 c) rfl (by kernel_rfl) (by kernel_rfl) (by kernel_rfl) (by kernel_rfl) (by decide) (fun _ _ _ h => h) (Or.inl ⟨by rfl, fun w' hw' => by go_simp⟩) hH ?_
      try simp only [List.getElem_toArray, List.getElem_cons_succ, List.getElem_cons_zero, Act.put, List.setIfInBounds_toArray, List.set_cons_zero, List.set_cons_succ]
      refine wpAnyK_take (i := 4) (v := .int .i64 1) rfl (by kernel_rfl) (by kernel_rfl) (by kernel_rfl) (by kernel_rfl) (by decide) (fun _ _ _ h => h) (Or.inl ⟨by rfl, fun w' hw' => by go_simp⟩) hH ?_
      try simp only [List.getElem_toArray, List.getElem_cons_succ, List.getElem_cons_zero, Act.put, List.setIfInBounds_toArray, List.set_cons_zero, List.set_cons_succ]
      refine wpAnyK_take (i := 5) (v := .int .i64 0) rfl (by kernel_rfl) (by kernel_rfl) (by kernel_rfl) (by kernel_rfl) (by decide) (fun _ _ _ h => h) (Or.inl ⟨by rfl, fun w' hw' => by (go_simp <;> rfl)⟩) hH ?_
      try simp only [List.getElem_toArray, List.getElem_cons_succ, List.getElem_cons_zero, Act.put, List.setIfInBounds_toArray, List.set_cons_zero, List.set_cons_succ]
      refine wpAnyK_take (i := 6) (v := .pointer (some ⟨s, o + 0, none⟩)) rfl (by kernel_rfl) (by kernel_rfl) (by kernel_rfl) (by kernel_rfl) (by decide) (fun _ _ _ h => h) (Or.inl ⟨by rfl, fun w' hw' => by go_simp⟩) hH ?_
      try simp only [List.getElem_toArray, List.getElem_cons_succ, List.getElem_cons_zero, Act.put, List.setIfInBounds_toArray, List.set_cons_zero, List.set_cons_succ]
      refine wpAnyK_take (i := 7) (v := .int .i64 z.p) rfl (by kernel_rfl) (by kernel_rfl) (by kernel_rfl) (by kernel_rfl) (by decide) (fun _ _ _ h => h) (yieldsIf_load_cell (by rfl) 3 _ rfl (s) (o + 0) rfl _ (fun w' hw' => hw') (fun w => Tryz.isAgg3 w)) hH ?_
      try simp only [List.getElem_toArray, List.getElem_cons_succ, List.getElem_cons_zero, Act.put, List.setIfInBounds_toArray, List.set_cons_zero, List.set_cons_succ]
      refine wpAnyK_take (i := 8) (v := .string key) rfl (by kernel_rfl) (by kernel_rfl) (by kernel_rfl) (by kernel_rfl) (by decide) (fun _ _ _ h => h) (Or.inl ⟨by rfl, fun w' hw' => by go_simp⟩) hH ?_
      try simp only [List.getElem_toArray, List.getElem_cons_succ, List.getElem_cons_zero, Act.put, List.setIfInBounds_toArray, List.set_cons_zero, List.set_cons_succ]
      refine wpAnyK_ready (rs := [1, 10]) (by kernel_rfl) (by simp) ?_
      refine AllReadyK.cons rfl (fun K hK => ?_) (AllReadyK.cons rfl (fun K hK => ?_) AllReadyK.nil)
      · rw [if_pos (by rfl)]
        go_simp
        refine (tarena2 tb ba bm bw fr rt pgs ls fl _ (hTw.ext ((Chg.refl [] w1).drew)) (hAw.ext ((Chg.refl [] w1).drew)) hP).mono ?_
        rintro e wa ⟨ba2, bm2, bw2, rfl, g1, g2, g3, hA2, hCa⟩
        have hEa := ((Chg.refl [] w1).drew).trans hCa
        refine hK.out _ _ (hSc _ hEa) (fun hH => ?_)
        clear hK K
        try simp only [List.getElem_toArray, List.getElem_cons_succ, List.getElem_cons_zero, Act.put, List.setIfInBounds_toArray, List.set_cons_zero, List.set_cons_succ]
        refine wpAnyK_ready (rs := [9, 10]) (by kernel_rfl) (by simp) ?_
        refine AllReadyK.cons rfl (fun K hK => ?_) (AllReadyK.cons rfl (fun K hK => ?_) AllReadyK.nil)
        · rw [if_pos (by rfl)]
          go_simp
          refine (from_w ba2 z.p key _).mono ?_
          rintro e wf ⟨b1, b2, b3, rfl, gb1, gb2, gb3, hb1, hb2, hb3, hCf⟩
          have hEf := (hEa).trans hCf
          refine hK.out _ _ (hSc _ hEf) (fun hH => ?_)
          clear hK K
          try simp only [List.getElem_toArray, List.getElem_cons_succ, List.getElem_cons_zero, Act.put, List.setIfInBounds_toArray, List.set_cons_zero, List.set_cons_succ]
          refine wpAnyK_ready (rs := [10]) (by kernel_rfl) (by simp) ?_
          refine AllReadyK.cons rfl (fun K hK => ?_) AllReadyK.nil
          go_simp
          refine hK.out _ _ (hSc _ (hEf.alloc _)) (fun hH => ?_)
          clear hK K
          try simp only [List.getElem_toArray, List.getElem_cons_succ, List.getElem_cons_zero, Act.put, List.setIfInBounds_toArray, List.set_cons_zero, List.set_cons_succ]
          refine wpAnyK_ready (rs := [11]) (by kernel_rfl) (by simp) ?_
          refine AllReadyK.last rfl (fun K hK => ?_)
          rw [if_pos (by rfl)]
          refine op_store_one 158 _ _ rfl wf.heap.size 0 rfl (.func (.func 160) #[] #[.pointer (some ⟨b1, 0, none⟩), .pointer (some ⟨b2, 0, none⟩), .pointer (some ⟨b3, 0, none⟩)]) rfl 158 _ (Blk.new wf 158 _) (by simp) (by kernel_rfl) rfl ?_
          intro wk hCk hsk hBk
          refine hK.out _ _ ?_
          clear hK K
          try simp only [List.getElem_toArray, List.getElem_cons_succ, List.getElem_cons_zero, Act.put, List.setIfInBounds_toArray, List.set_cons_zero, List.set_cons_succ]
          refine wpAnyK_done (by kernel_rfl) ?_ _
          go_wp2_with fail
          go_meet
          refine hfin wf.heap.size b1 b2 b3 ba2 bm2 bw2 _ wk _ (Blk.new wf 158 _) (hb1.alloc _) (hb2.alloc _) (hb3.alloc _) (hA2.ext (hCf.alloc _)) (hEf.alloc _) hCk (by simpa using hBk) ?_
          have := hEa.size
          have := hEf.size
          simp at g1 g2 g3 gb1 gb2 gb3
          try simp
          omega
        · rw [if_pos (by rfl)]
          go_simp
          refine hK.out _ _ (hSc _ (hEa.alloc _)) (fun hH => ?_)
          clear hK K
          try simp only [List.getElem_toArray, List.getElem_cons_succ, List.getElem_cons_zero, Act.put, List.setIfInBounds_toArray, List.set_cons_zero, List.set_cons_succ]
          refine wpAnyK_ready (rs := [9]) (by kernel_rfl) (by simp) ?_
          refine AllReadyK.cons rfl (fun K hK => ?_) AllReadyK.nil
          go_simp
          refine (from_w ba2 z.p key _).mono ?_
          rintro e wf ⟨b1, b2, b3, rfl, gb1, gb2, gb3, hb1, hb2, hb3, hCf⟩
          have hEf := (hEa.alloc _).trans hCf
          refine hK.out _ _ (hSc _ hEf) (fun hH => ?_)
          clear hK K
          try simp only [List.getElem_toArray, List.getElem_cons_succ, List.getElem_cons_zero, Act.put, List.setIfInBounds_toArray, List.set_cons_zero, List.set_cons_succ]
          refine wpAnyK_ready (rs := [11]) (by kernel_rfl) (by simp) ?_
          refine AllReadyK.last rfl (fun K hK => ?_)
          rw [if_pos (by rfl)]
          refine op_store_one 158 _ _ rfl wa.heap.size 0 rfl (.func (.func 160) #[] #[.pointer (some ⟨b1, 0, none⟩), .pointer (some ⟨b2, 0, none⟩), .pointer (some ⟨b3, 0, none⟩)]) rfl 158 _ ((Blk.new wa 158 _).ext hCf) (by simp) (by kernel_rfl) rfl ?_
          intro wk hCk hsk hBk
          refine hK.out _ _ ?_
          clear hK K
          try simp only [List.getElem_toArray, List.getElem_cons_succ, List.getElem_cons_zero, Act.put, List.setIfInBounds_toArray, List.set_cons_zero, List.set_cons_succ]
          refine wpAnyK_done (by kernel_rfl) ?_ _
          go_wp2_with fail
          go_meet
          refine hfin wa.heap.size b1 b2 b3 ba2 bm2 bw2 _ wk _ ((Blk.new wa 158 _).ext hCf) (hb1) (hb2) (hb3) ((hA2.ext ((Chg.refl [] wa).alloc _)).ext hCf) (hEf) hCk (by simpa using hBk) ?_
          have := hEa.size
          have := hEf.size
          simp at g1 g2 g3 gb1 gb2 gb3
          try simp
          omega
      · rw [if_pos (by rfl)]
        go_simp
        refine hK.out _ _ (hSc _ ((Chg.refl [] w1).drew.alloc _)) (fun hH => ?_)
        clear hK K
        try simp only [List.getElem_toArray, List.getElem_cons_succ, List.getElem_cons_zero, Act.put, List.setIfInBounds_toArray, List.set_cons_zero, List.set_cons_succ]
        refine wpAnyK_ready (rs := [1]) (by kernel_rfl) (by simp) ?_
        refine AllReadyK.cons rfl (fun K hK => ?_) AllReadyK.nil
        go_simp
        refine (tarena2 tb ba bm bw fr rt pgs ls fl _ (hTw.ext ((Chg.refl [] w1).drew.alloc _)) (hAw.ext ((Chg.refl [] w1).drew.alloc _)) hP).mono ?_
        rintro e wa ⟨ba2, bm2, bw2, rfl, g1, g2, g3, hA2, hCa⟩
        have hEa := ((Chg.refl [] w1).drew.alloc _).trans hCa
        refine hK.out _ _ (hSc _ hEa) (fun hH => ?_)
        clear hK K
        try simp only [List.getElem_toArray, List.getElem_cons_succ, List.getElem_cons_zero, Act.put, List.setIfInBounds_toArray, List.set_cons_zero, List.set_cons_succ]
        refine wpAnyK_ready (rs := [9]) (by kernel_rfl) (by simp) ?_
        refine AllReadyK.cons rfl (fun K hK => ?_) AllReadyK.nil
        go_simp
        refine (from_w ba2 z.p key _).mono ?_
        rintro e wf ⟨b1, b2, b3, rfl, gb1, gb2, gb3, hb1, hb2, hb3, hCf⟩
        have hEf := (hEa).trans hCf
        refine hK.out _ _ (hSc _ hEf) (fun hH => ?_)
        clear hK K
        try simp only [List.getElem_toArray, List.getElem_cons_succ, List.getElem_cons_zero, Act.put, List.setIfInBounds_toArray, List.set_cons_zero, List.set_cons_succ]
        refine wpAnyK_ready (rs := [11]) (by kernel_rfl) (by simp) ?_
        refine AllReadyK.last rfl (fun K hK => ?_)
        rw [if_pos (by rfl)]
        refine op_store_one 158 _ _ rfl w1.heap.size 0 rfl (.func (.func 160) #[] #[.pointer (some ⟨b1, 0, none⟩), .pointer (some ⟨b2, 0, none⟩), .pointer (some ⟨b3, 0, none⟩)]) rfl 158 _ (((Blk.new w1.drew 158 _).ext hCa).ext hCf) (by simp) (by kernel_rfl) rfl ?_
        intro wk hCk hsk hBk
        refine hK.out _ _ ?_
        clear hK K
        try simp only [List.getElem_toArray, List.getElem_cons_succ, List.getElem_cons_zero, Act.put, List.setIfInBounds_toArray, List.set_cons_zero, List.set_cons_succ]
        refine wpAnyK_done (by kernel_rfl) ?_ _
        go_wp2_with fail
        go_meet
        refine hfin w1.heap.size b1 b2 b3 ba2 bm2 bw2 _ wk _ (((Blk.new w1.drew 158 _).ext hCa).ext hCf) (hb1) (hb2) (hb3) (hA2.ext hCf) (hEf) hCk (by simpa using hBk) ?_
        have := hEa.size
        have := hEf.size
        simp at g1 g2 g3 gb1 gb2 gb3
        try simp
        omega
    case rest =>
      obtain ⟨b1, b2, b3, b10, ba', bm', bw', rfl, hR⟩ := hcut
      go_wp2
      go_ret2
      exact ⟨b1, b2, b3, w.heap.size, b10, rfl, ba', bm', bw', hR⟩
  · have hC1w : Chg [] w w1 := ((Chg.refl [] w).alloc _).trans hC1
    have hTw := hT.ext hC1w
    have hAw := hA.ext hC1w
    have hsl := block_lt_of_cell hcell
    have hc1 : 2 ≤ c := by omega
    have hSc : ∀ W, Chg [] w1 W → W.cell? ⟨s, o + 1, none⟩ = some (.int .i64 z.p) := fun W hW => by rw [hW.cell hsl (by simp)]; exact hcell
    have Hls := Lib.hid hls
    have Hund := Lib.hid hund
    have hsz := hC1w.size
    clear hcell hls hund hk1 hkc h5 hp
    simp only [Nat.zero_add, Nat.reduceAdd, Nat.add_zero, Int.cast_ofNat_Int] at hSc ⊢
    try simp only [Act.put, List.setIfInBounds_toArray, List.set_cons_zero, List.set_cons_succ]
    go_cut [10] (fun v wx => ∃ b1 b2 b3 b10 ba' bm' bw', v = .pointer (some ⟨b10, 0, none⟩) ∧ PartR fr rt pgs ls key high w b1 b2 b3 w.heap.size b10 ba' bm' bw' wx)
    case first =>
      have hfin : ∀ p b1 b2 b3 ba2 bm2 bw2 Y wk cs, Blk Y p 158 cs → Blk Y b1 3 #[.int .i64 z.p] → Blk Y b2 64 #[.pointer (some ⟨ba2, 0, none⟩)] → Blk Y b3 9 #[.string key] → ArS Y ba2 bm2 bw2 fr rt pgs → Chg [] w1 Y → Chg [p] Y wk → Blk wk p 158 #[.func (.func 160) #[] #[.pointer (some ⟨b1, 0, none⟩), .pointer (some ⟨b2, 0, none⟩), .pointer (some ⟨b3, 0, none⟩)]] → (w1.heap.size ≤ b1 ∧ w1.heap.size ≤ b2 ∧ w1.heap.size ≤ b3 ∧ w1.heap.size ≤ p ∧ w1.heap.size ≤ ba2 ∧ w1.heap.size ≤ bm2 ∧ w1.heap.size ≤ bw2) → ∃ b1 b2 b3 b10 ba' bm' bw', Value.pointer (some ⟨p, 0, none⟩) = .pointer (some ⟨b10, 0, none⟩) ∧ PartR fr rt pgs ls key high w b1 b2 b3 w.heap.size b10 ba' bm' bw' wk := fun p b1 b2 b3 ba2 bm2 bw2 Y wk cs qp q1 q2 q3 q4 q5 q6 q7 ⟨g1, g2, g3, g4, g5, g6, g7⟩ => by
        have n1 := q1.ne_ qp (by decide)
        have n2 := q2.ne_ qp (by decide)
        have n3 := q3.ne_ qp (by decide)
        obtain ⟨m1, m2, m3⟩ := q4.ne158 qp
        have hC9 := q5.on q6 (fun i hi => .inr (by simp at hi; omega))
        exact ⟨b1, b2, b3, p, ba2, bm2, bw2, rfl, ⟨by omega, by omega, by omega, Nat.le_refl _, by omega, by omega, by omega, by omega⟩, q2.chg q6 (by simpa using n2), q3.chg q6 (by simpa using n3), hB5.ext hC9, q7, q4.chg q6 (by simpa using m1) (by simpa using m2) (by simpa using m3), hC1w.trans hC9, A, z, B, Hls.out, Hund.out, q1.chg q6 (by simpa using n1)⟩
      refine wp_region_K (S := fun W => W.cell? ⟨s, o + 1, none⟩ = some (.int .i64 z.p)) 11 (by kernel_rfl) (hSc _ ((Chg.refl [] w1).drew)) (fun hH => ?_)
      refine wpAnyK_take (i := 0) (v := .pointer (some ⟨tb, 0, none⟩)) rfl (by kernel_rfl) (by kernel_rfl) (by kernel_rfl) (by kernel_rfl) (by decide) (fun _ _ _ h => h) (Or.inl ⟨by rfl, fun w' hw' => by go_simp⟩) hH ?_
      try simp only [List.getElem_toArray, List.getElem_cons_succ, List.getElem_cons_zero, Act.put, List.setIfInBounds_toArray, List.set_cons_zero, List.set_cons_succ]
      refine wpAnyK_take (i := 2) (v := .slice (some ⟨s, o, none⟩) 2 c) rfl (by kernel_rfl) (by kernel_rfl) (by kernel_rfl) (by kernel_rfl) (by decide) (fun _ _ _ h => h) (Or.inl ⟨by rfl, fun w' hw' => by go_simp⟩) hH ?_
      try simp only [List.getElem_toArray, List.getElem_cons_succ, List.getElem_cons_zero, Act.put, List.setIfInBounds_toArray, List.set_cons_zero, List.set_cons_succ]
      refine wpAnyK_take (i := 3) (v := .slice (some ⟨s, o, none⟩) 2 c) rfl (by kernel_rfl) (by kernel_rfl) (by kernel_rfl) (by kernel_rfl) (by decide) (fun _ _ _ h => h) (Or.inl ⟨by rfl, fun w' hw' => by go_simp⟩) hH ?_
      try simp only [List.getElem_toArray, List.getElem_cons_succ, List.getElem_cons_zero, Act.put, List.setIfInBounds_toArray, List.set_cons_zero, List.set_cons_succ]
      refine wpAnyK_take (i := 4) (v := .int .i64 2) rfl (by kernel_rfl) (by kernel_rfl) (by kernel_rfl) (by kernel_rfl) (by decide) (fun _ _ _ h => h) (Or.inl ⟨by rfl, fun w' hw' => by go_simp⟩) hH ?_
      try simp only [List.getElem_toArray, List.getElem_cons_succ, List.getElem_cons_zero, Act.put, List.setIfInBounds_toArray, List.set_cons_zero, List.set_cons_succ]
      refine wpAnyK_take (i := 5) (v := .int .i64 1) rfl (by kernel_rfl) (by kernel_rfl) (by kernel_rfl) (by kernel_rfl) (by decide) (fun _ _ _ h => h) (Or.inl ⟨by rfl, fun w' hw' => by (go_simp <;> rfl)⟩) hH ?_
      try simp only [List.getElem_toArray, List.getElem_cons_succ, List.getElem_cons_zero, Act.put, List.setIfInBounds_toArray, List.set_cons_zero, List.set_cons_succ]
      refine wpAnyK_take (i := 6) (v := .pointer (some ⟨s, o + 1, none⟩)) rfl (by kernel_rfl) (by kernel_rfl) (by kernel_rfl) (by kernel_rfl) (by decide) (fun _ _ _ h => h) (Or.inl ⟨by rfl, fun w' hw' => by go_simp⟩) hH ?_
      try simp only [List.getElem_toArray, List.getElem_cons_succ, List.getElem_cons_zero, Act.put, List.setIfInBounds_toArray, List.set_cons_zero, List.set_cons_succ]
      refine wpAnyK_take (i := 7) (v := .int .i64 z.p) rfl (by kernel_rfl) (by kernel_rfl) (by kernel_rfl) (by kernel_rfl) (by decide) (fun _ _ _ h => h) (yieldsIf_load_cell (by rfl) 3 _ rfl (s) (o + 1) rfl _ (fun w' hw' => hw') (fun w => Tryz.isAgg3 w)) hH ?_
      try simp only [List.getElem_toArray, List.getElem_cons_succ, List.getElem_cons_zero, Act.put, List.setIfInBounds_toArray, List.set_cons_zero, List.set_cons_succ]
      refine wpAnyK_take (i := 8) (v := .string key) rfl (by kernel_rfl) (by kernel_rfl) (by kernel_rfl) (by kernel_rfl) (by decide) (fun _ _ _ h => h) (Or.inl ⟨by rfl, fun w' hw' => by go_simp⟩) hH ?_
      try simp only [List.getElem_toArray, List.getElem_cons_succ, List.getElem_cons_zero, Act.put, List.setIfInBounds_toArray, List.set_cons_zero, List.set_cons_succ]
      refine wpAnyK_ready (rs := [1, 10]) (by kernel_rfl) (by simp) ?_
      refine AllReadyK.cons rfl (fun K hK => ?_) (AllReadyK.cons rfl (fun K hK => ?_) AllReadyK.nil)
      · rw [if_pos (by rfl)]
        go_simp
        refine (tarena2 tb ba bm bw fr rt pgs ls fl _ (hTw.ext ((Chg.refl [] w1).drew)) (hAw.ext ((Chg.refl [] w1).drew)) hP).mono ?_
        rintro e wa ⟨ba2, bm2, bw2, rfl, g1, g2, g3, hA2, hCa⟩
        have hEa := ((Chg.refl [] w1).drew).trans hCa
        refine hK.out _ _ (hSc _ hEa) (fun hH => ?_)
        clear hK K
        try simp only [List.getElem_toArray, List.getElem_cons_succ, List.getElem_cons_zero, Act.put, List.setIfInBounds_toArray, List.set_cons_zero, List.set_cons_succ]
        refine wpAnyK_ready (rs := [9, 10]) (by kernel_rfl) (by simp) ?_
        refine AllReadyK.cons rfl (fun K hK => ?_) (AllReadyK.cons rfl (fun K hK => ?_) AllReadyK.nil)
        · rw [if_pos (by rfl)]
          go_simp
          refine (from_w ba2 z.p key _).mono ?_
          rintro e wf ⟨b1, b2, b3, rfl, gb1, gb2, gb3, hb1, hb2, hb3, hCf⟩
          have hEf := (hEa).trans hCf
          refine hK.out _ _ (hSc _ hEf) (fun hH => ?_)
          clear hK K
          try simp only [List.getElem_toArray, List.getElem_cons_succ, List.getElem_cons_zero, Act.put, List.setIfInBounds_toArray, List.set_cons_zero, List.set_cons_succ]
          refine wpAnyK_ready (rs := [10]) (by kernel_rfl) (by simp) ?_
          refine AllReadyK.cons rfl (fun K hK => ?_) AllReadyK.nil
          go_simp
          refine hK.out _ _ (hSc _ (hEf.alloc _)) (fun hH => ?_)
          clear hK K
          try simp only [List.getElem_toArray, List.getElem_cons_succ, List.getElem_cons_zero, Act.put, List.setIfInBounds_toArray, List.set_cons_zero, List.set_cons_succ]
          refine wpAnyK_ready (rs := [11]) (by kernel_rfl) (by simp) ?_
          refine AllReadyK.last rfl (fun K hK => ?_)
          rw [if_pos (by rfl)]
          refine op_store_one 158 _ _ rfl wf.heap.size 0 rfl (.func (.func 160) #[] #[.pointer (some ⟨b1, 0, none⟩), .pointer (some ⟨b2, 0, none⟩), .pointer (some ⟨b3, 0, none⟩)]) rfl 158 _ (Blk.new wf 158 _) (by simp) (by kernel_rfl) rfl ?_
          intro wk hCk hsk hBk
          refine hK.out _ _ ?_
          clear hK K
          try simp only [List.getElem_toArray, List.getElem_cons_succ, List.getElem_cons_zero, Act.put, List.setIfInBounds_toArray, List.set_cons_zero, List.set_cons_succ]
          refine wpAnyK_done (by kernel_rfl) ?_ _
          go_wp2_with fail
          go_meet
          refine hfin wf.heap.size b1 b2 b3 ba2 bm2 bw2 _ wk _ (Blk.new wf 158 _) (hb1.alloc _) (hb2.alloc _) (hb3.alloc _) (hA2.ext (hCf.alloc _)) (hEf.alloc _) hCk (by simpa using hBk) ?_
          have := hEa.size
          have := hEf.size
          simp at g1 g2 g3 gb1 gb2 gb3
          try simp
          omega
        · rw [if_pos (by rfl)]
          go_simp
          refine hK.out _ _ (hSc _ (hEa.alloc _)) (fun hH => ?_)
          clear hK K
          try simp only [List.getElem_toArray, List.getElem_cons_succ, List.getElem_cons_zero, Act.put, List.setIfInBounds_toArray, List.set_cons_zero, List.set_cons_succ]
          refine wpAnyK_ready (rs := [9]) (by kernel_rfl) (by simp) ?_
          refine AllReadyK.cons rfl (fun K hK => ?_) AllReadyK.nil
          go_simp
          refine (from_w ba2 z.p key _).mono ?_
          rintro e wf ⟨b1, b2, b3, rfl, gb1, gb2, gb3, hb1, hb2, hb3, hCf⟩
          have hEf := (hEa.alloc _).trans hCf
          refine hK.out _ _ (hSc _ hEf) (fun hH => ?_)
          clear hK K
          try simp only [List.getElem_toArray, List.getElem_cons_succ, List.getElem_cons_zero, Act.put, List.setIfInBounds_toArray, List.set_cons_zero, List.set_cons_succ]
          refine wpAnyK_ready (rs := [11]) (by kernel_rfl) (by simp) ?_
          refine AllReadyK.last rfl (fun K hK => ?_)
          rw [if_pos (by rfl)]
          refine op_store_one 158 _ _ rfl wa.heap.size 0 rfl (.func (.func 160) #[] #[.pointer (some ⟨b1, 0, none⟩), .pointer (some ⟨b2, 0, none⟩), .pointer (some ⟨b3, 0, none⟩)]) rfl 158 _ ((Blk.new wa 158 _).ext hCf) (by simp) (by kernel_rfl) rfl ?_
          intro wk hCk hsk hBk
          refine hK.out _ _ ?_
          clear hK K
          try simp only [List.getElem_toArray, List.getElem_cons_succ, List.getElem_cons_zero, Act.put, List.setIfInBounds_toArray, List.set_cons_zero, List.set_cons_succ]
          refine wpAnyK_done (by kernel_rfl) ?_ _
          go_wp2_with fail
          go_meet
          refine hfin wa.heap.size b1 b2 b3 ba2 bm2 bw2 _ wk _ ((Blk.new wa 158 _).ext hCf) (hb1) (hb2) (hb3) ((hA2.ext ((Chg.refl [] wa).alloc _)).ext hCf) (hEf) hCk (by simpa using hBk) ?_
          have := hEa.size
          have := hEf.size
          simp at g1 g2 g3 gb1 gb2 gb3
          try simp
          omega
      · rw [if_pos (by rfl)]
        go_simp
        refine hK.out _ _ (hSc _ ((Chg.refl [] w1).drew.alloc _)) (fun hH => ?_)
        clear hK K
        try simp only [List.getElem_toArray, List.getElem_cons_succ, List.getElem_cons_zero, Act.put, List.setIfInBounds_toArray, List.set_cons_zero, List.set_cons_succ]
        refine wpAnyK_ready (rs := [1]) (by kernel_rfl) (by simp) ?_
        refine AllReadyK.cons rfl (fun K hK => ?_) AllReadyK.nil
        go_simp
        refine (tarena2 tb ba bm bw fr rt pgs ls fl _ (hTw.ext ((Chg.refl [] w1).drew.alloc _)) (hAw.ext ((Chg.refl [] w1).drew.alloc _)) hP).mono ?_
        rintro e wa ⟨ba2, bm2, bw2, rfl, g1, g2, g3, hA2, hCa⟩
        have hEa := ((Chg.refl [] w1).drew.alloc _).trans hCa
        refine hK.out _ _ (hSc _ hEa) (fun hH => ?_)
        clear hK K
        try simp only [List.getElem_toArray, List.getElem_cons_succ, List.getElem_cons_zero, Act.put, List.setIfInBounds_toArray, List.set_cons_zero, List.set_cons_succ]
        refine wpAnyK_ready (rs := [9]) (by kernel_rfl) (by simp) ?_
        refine AllReadyK.cons rfl (fun K hK => ?_) AllReadyK.nil
        go_simp
        refine (from_w ba2 z.p key _).mono ?_
        rintro e wf ⟨b1, b2, b3, rfl, gb1, gb2, gb3, hb1, hb2, hb3, hCf⟩
        have hEf := (hEa).trans hCf
        refine hK.out _ _ (hSc _ hEf) (fun hH => ?_)
        clear hK K
        try simp only [List.getElem_toArray, List.getElem_cons_succ, List.getElem_cons_zero, Act.put, List.setIfInBounds_toArray, List.set_cons_zero, List.set_cons_succ]
        refine wpAnyK_ready (rs := [11]) (by kernel_rfl) (by simp) ?_
        refine AllReadyK.last rfl (fun K hK => ?_)
        rw [if_pos (by rfl)]
        refine op_store_one 158 _ _ rfl w1.heap.size 0 rfl (.func (.func 160) #[] #[.pointer (some ⟨b1, 0, none⟩), .pointer (some ⟨b2, 0, none⟩), .pointer (some ⟨b3, 0, none⟩)]) rfl 158 _ (((Blk.new w1.drew 158 _).ext hCa).ext hCf) (by simp) (by kernel_rfl) rfl ?_
        intro wk hCk hsk hBk
        refine hK.out _ _ ?_
        clear hK K
        try simp only [List.getElem_toArray, List.getElem_cons_succ, List.getElem_cons_zero, Act.put, List.setIfInBounds_toArray, List.set_cons_zero, List.set_cons_succ]
        refine wpAnyK_done (by kernel_rfl) ?_ _
        go_wp2_with fail
        go_meet
        refine hfin w1.heap.size b1 b2 b3 ba2 bm2 bw2 _ wk _ (((Blk.new w1.drew 158 _).ext hCa).ext hCf) (hb1) (hb2) (hb3) (hA2.ext hCf) (hEf) hCk (by simpa using hBk) ?_
        have := hEa.size
        have := hEf.size
        simp at g1 g2 g3 gb1 gb2 gb3
        try simp
        omega
    case rest =>
      obtain ⟨b1, b2, b3, b10, ba', bm', bw', rfl, hR⟩ := hcut
      go_wp2
      go_ret2
      exact ⟨b1, b2, b3, w.heap.size, b10, rfl, ba', bm', bw', hR⟩

end Go.Proofs.YtpcaadipejnllaaGreatDoor

/- The pairs of a range. -/
set_option linter.unusedVariables false
set_option linter.unusedSimpArgs false
namespace Go.Proofs.YtpcaadipejnllaaGreatDoor
open Go.RowKit Go.Shelf
attribute [local go_sem] Oper.semAt_some wide_fn wide_depth

theorem wpList_append_prx {w : World} {ops : Array Oper} {rest : List Oper} {o : Oper} {a : Act} {Q : Exit → Act → World → Prop} (hgd : o.guard = none) (s x : Operand)
    (ho : o.op = .call { callee := .builtin .append, args := #[s, x], argTypes := #[94, 94] })
    (base : Nat) (v : Value) (l : List Pr) (hs : a.eval s = v) (hown : w.ownsRow base 93 2 v l.length (prs l)) (b : Nat) (y : Pr) (hx : a.eval x = .slice (some ⟨b, 0, none⟩) 1 1) (hb : Blk w b 93 #[.string y.1, .string y.2]) (hl : l.length ≤ 2000) (hbase : base ≤ w.heap.size)
    (h : ∀ v' w', w'.ownsRow base 93 2 v' (l ++ [y]).length (prs (l ++ [y])) → Chg v.ownBlock.toList w w' → (v'.ownBlock = v.ownBlock ∨ v'.ownBlock = some w.heap.size) → wpList Tryz.prog ops Q rest (a.put o.dst v') w') : wpList Tryz.prog ops Q (o :: rest) a w := by
  obtain ⟨i0, hi, hz0, hz1, hz2⟩ := info_parts info93
  refine wpList_append_own_at w hgd s x 94 ho base 93 i0 _ 2 32 Tryz.underlying94 hi hz0 hz1 hz2 rfl (by decide) v l.length (prs l) hs hown ⟨b, 0, none⟩ 1 1 [.string y.1, .string y.2] hx rfl (fun j u hj => ?_) (by simp [Value.oneCell']) (by unfold maxLen; omega) (by omega) hbase (fun v' w' h3 h4 _ h5 => h v' w' (by rw [List.length_append, prs_app]; exact h3) (Chg.of_grown h4) h5)
  rw [add_mk, Nat.zero_add, hb.cell, ← Array.getElem?_toList]
  exact hj

theorem Ow.fresh {Bl : Nat} {W : World} (h : Blk W Bl 94 #[.slice none 0 0]) {k : Nat} (hk : Ow Bl W k) : k = Bl := by
  rcases hk with hk | ⟨v, hv, ho⟩
  · exact hk
  · have h1 : W.heap[Bl]? = _ := h
    have h2 : W.heap[Bl]? = _ := hv
    rw [h1] at h2
    cases h2
    cases ho

/-- What the loop holds: the list in its box. -/
def RangeI (w W0 : World) (Bl B7 : Nat) (pre : List Pr) (V : World) : Prop :=
  (∃ A c, Blk V Bl 94 #[.slice A pre.length c] ∧ V.ownsRow W0.heap.size 93 2 (.slice A pre.length c) pre.length (prs pre)) ∧ Blk V B7 3 #[.int .i64 32] ∧ Chg [] w V ∧ W0.heap.size ≤ V.heap.size
theorem own_cells {V : World} {base : Nat} {e : TypeId} {size n k : Nat} {v : Value} {xs : List Value} (h : V.ownsRow base e size v n xs) (hk : v.ownBlock = some k) : ∃ o, V.heap[k]? = some o ∧ o.isCells = true := by
  rcases h.2 with ⟨rfl, _⟩ | ⟨g, c, cur, rfl, _, hg, _⟩
  · cases hk
  · have : g = k := by simpa [Value.ownBlock] using hk
    subst this
    exact ⟨_, hg, rfl⟩

set_option maxRecDepth 100000 in
set_option maxHeartbeats 4000000 in
theorem range_w (tb : Nat) (c0 : List Pr) (key high : ByteArray) (hk : key.size ≤ 24) (hh : high.size ≤ 24) (hne : high.toList.isEmpty = false) (hlen : (til high (fil key c0)).length ≤ 24) (w : World) (hTS : TreeS w tb c0) :
    Calls Tryz.prog 44 #[.pointer (some ⟨tb, 0, none⟩), .string key, .string high, .int .i64 32] w fun e w' => ∃ v, e = .returned (.tuple #[v, .int .i64 0]) ∧ w'.ownsRow w.heap.size 93 2 v (til high (fil key c0)).length (prs (til high (fil key c0))) ∧ Chg [] w w' := by
  obtain ⟨ba, bm, bw, fr, rt, pgs, ls, fl, hT, hA, hP, rfl⟩ := hTS
  obtain ⟨exl, hM⟩ : ∃ ex, Mid fr pgs ls ex fl := by
    cases id hP with
    | one x e r m => exact ⟨[], m⟩
    | many n m p l => exact ⟨[rt], m⟩
  refine (callsIn_wide (n := 3)).1 ?_
  refine callsIn_of_wp_marks Tryz.func44 rfl trivial ?_ rfl
  simp only [Tryz.ntmps44, List.size_toArray, List.length_cons, List.length_nil, Nat.reduceAdd, Nat.reduceSub, Array.replicate_succ, Array.replicate_zero, List.push_toArray, List.append_toArray, List.nil_append, List.cons_append]
  have hC0 : Chg [] w (w.alloc (.cells #[.int .i64 32] 3)) := (Chg.refl [] w).alloc _
  gi_wp2_with (first
    | (gi_at_call 89; go_loud (refine (callsIn_wide.2 (part_w tb ba bm bw fr rt pgs ls fl key high hk hh _ (hT.alloc _) (hA.ext hC0) hP)).mono ?_); rintro e w1 ⟨b1, b2, b3, b5, b10, ba2, bm2, bw2, rfl, hR⟩; have h7 : w1.cell? ⟨w.heap.size, 0, none⟩ = some (.int .i64 32) := ((Blk.new w 3 #[.int .i64 32]).ext hR.2.2.2.2.2.2.1).cell 0))
  obtain ⟨⟨g1, g2, g3, g5, g10, gba, gbm, gbw⟩, q2, q3, q5, q10, qA, qC, A, z, B, hls, hund, q1⟩ := hR
  simp only [World.size_alloc] at g1 g2 g3 g5 g10 gba gbm gbw
  have hCw1 := hC0.trans qC
  have q7 : Blk w1 w.heap.size 3 #[.int .i64 32] := (Blk.new w 3 #[.int .i64 32]).ext qC
  obtain ⟨W2, hW2⟩ : ∃ W2, w1.alloc (.cells #[.slice none 0 0] 94) = W2 := ⟨_, rfl⟩
  obtain ⟨Bl, hBl⟩ : ∃ Bl, Bl = w1.heap.size := ⟨_, rfl⟩
  have hC2 : Chg [] w1 W2 := by rw [← hW2]; exact (Chg.refl [] w1).alloc _
  have hBB : Blk W2 Bl 94 #[.slice none 0 0] := by rw [← hW2]; exact Blk.newEq hBl
  have hs2 : W2.heap.size = w1.heap.size + 1 := by rw [← hW2]; simp
  rw [hW2, ← hBl]
  clear hW2 h7
  have hCw2 := hCw1.trans hC2
  have hlt2 : Bl < W2.heap.size := by omega
  have hno : ∀ k, k < Bl → ¬ Ow Bl W2 k := fun k hk ho => by have := ho.fresh hBB; omega
  have hK : ∀ g t cs, Blk w1 g t cs → Kept Bl W2 g t cs := fun g t cs h => ⟨h.ext hC2, hno g (by have := h.lt; omega)⟩
  have hOL : OwLt Bl W2 := fun k hk => by rw [hk.fresh hBB]; exact hlt2
  obtain ⟨l1, l2, l3⟩ := qA.lt
  have hS2 : Src Bl W2 b2 b3 ba2 bm2 bw2 fr rt pgs key := ⟨hK _ _ _ q2, hK _ _ _ q3, ⟨qA.ext hC2, hno _ (by omega), hno _ (by omega), hno _ (by omega)⟩, hOL, hlt2⟩
  have hX : fil key (flat ls) = fil key (flat (z :: B)) := by rw [hls, flat_app, fil_app, fil_none hund]; rfl
  have hseq1 := from_seq Bl b1 b2 b3 ba2 bm2 bw2 fr rt pgs key ls A (z :: B) exl fl hM (by rw [hls]; rfl) W2 (hK _ _ _ q1) hS2
  rw [← hX] at hseq1
  have hseq := part_seq Bl b1 b2 b3 b5 b10 high hne _ W2 hseq1 (hK _ _ _ q5) (hK _ _ _ q10) hOL hlt2
  clear hX hseq1 hls hund
  have hwl : w.heap.size < Bl := by have := q7.lt; omega
  have hq7 := q7.ext hC2
  clear hBl hs2 q7 qC qA q1 q2 q3 q5 q10
  refine rangeFunc9 (gf := 125) (lb := #[.pointer (some ⟨b10, 0, none⟩), .pointer (some ⟨b5, 0, none⟩)]) rfl (enters_of Tryz.func125 (by kernel_rfl) rfl) hlt2 W2 (Below.refl _ _) hseq
    (RangeI w W2 Bl w.heap.size) (fun _ _ => False)
    (fun s C D row hs hg hr => by
      obtain ⟨⟨A1, c1, h1, h2⟩, h3, h4, h5⟩ := hs
      have hr1 : ∀ r, row = some r → W2.heap.size ≤ r := fun r e => (hr r e).1
      have hCg := Chg.of_grown hg
      refine ⟨⟨A1, c1, h1.grown hg (fun e => by have := hr1 Bl e.symm; omega), own_chg h2 hCg (fun k hk hm => ?_)⟩, h3.grown hg (fun e => by have := hr1 _ e.symm; omega), h4.on hCg (fun i hi => .inr ?_), Nat.le_trans h5 hg.size⟩
      · obtain ⟨o1, e1, e2⟩ := own_cells h2 hk
        obtain ⟨_, o2, e3, e4⟩ := hr k (by simpa using hm)
        rw [e1] at e3; cases e3; rw [e2] at e4; cases e4
      · have := hr1 i (by simpa using hi); have := hCw2.size; omega)
    (fun _ _ _ _ hs _ _ => hs)
    ⟨⟨none, 0, hBB, World.ownsRow_nil _ _ _ _⟩, hq7, hCw2, Nat.le_refl _⟩
    (fun x Bx => { tmps := #[.pointer (some ⟨tb, 0, none⟩), .string key, .string high, .int .i64 32,
          undef, undef, undef, .pointer (some ⟨w.heap.size, 0, none⟩), .slice none 0 0,
          .int .i64 0,
          .func (.func 125) #[] #[.pointer (some ⟨b10, 0, none⟩), .pointer (some ⟨b5, 0, none⟩)],
          .int .i64 0, .pointer (some ⟨Bl, 0, none⟩), .pointer (some ⟨Bx, 0, none⟩),
          .tuple #[.func (.func 125) #[] #[.pointer (some ⟨b10, 0, none⟩), .pointer (some ⟨b5, 0, none⟩)], .int .i64 0],
          .pointer (some ⟨tb, 0, none⟩), .string key, .string high,
          .tuple #[.func (.func 125) #[] #[.pointer (some ⟨b10, 0, none⟩), .pointer (some ⟨b5, 0, none⟩)], .int .i64 0],
          .func (.func 125) #[] #[.pointer (some ⟨b10, 0, none⟩), .pointer (some ⟨b5, 0, none⟩)],
          .int .i64 0, .bool false, .int .i64 0, .bool false, undef, .bool false,
          .int .i64 32, .bool false, .bool false, .int .i64 32, .bool false,
          .bool false, .bool false, .int .i64 0, .bool false, undef,
          .func (.func 125) #[] #[.pointer (some ⟨b10, 0, none⟩), .pointer (some ⟨b5, 0, none⟩)],
          .agg #[.string x.1, .string x.2], undef, undef, undef, undef, undef, undef, undef, undef, undef], defers := [] })
    ?assign ?body ?done ?stop
  case assign =>
    intro l2 x m V K hK
    gi_wp2
    exact hK
  case body =>
    rintro l2 pre x Bx m V ⟨⟨A1, c1, h1, h2⟩, h3, h4, h5⟩ hpx hBx hbx
    have hpl : pre.length + 1 ≤ 24 := by have := hpx.length_le; simp at this; omega
    have d0 : V.cell? ⟨Bx, 0, none⟩ = some (.string x.1) := hbx.cell 0
    have d1 : V.cell? ⟨Bx, 1, none⟩ = some (.string x.2) := hbx.cell 1
    have dl : V.cell? ⟨Bl, 0, none⟩ = some (.slice A1 pre.length c1) := h1.cell 0
    have hbase : W2.heap.size ≤ (V.alloc (.cells #[.string x.1, .string x.2] 93)).heap.size := by simp; omega
    have hn7 : ¬ w.heap.size = Bl := by omega
    have hn8 : ¬ Bl = w.heap.size := by omega
    have hn32 : ¬ ((pre.length : Int) + 1 = 32) := by omega
    gi_wp2_with (first
      | (gi_at_builtin; refine wpListIn_lift_in (fun _ h => (by cases h)) ?_; go_loud (refine wpList_append_prx rfl _ _ rfl W2.heap.size (.slice A1 pre.length c1) pre rfl (h2.alloc _) V.heap.size x rfl (Blk.new V 93 _) (by omega) hbase ?_); intro v3 w3 ho3 hC3 hob; obtain ⟨A3, c3, rfl, hcx, hcy⟩ := (Sl.own ho3).form; have hB3 := (h1.alloc (.cells #[.string x.1, .string x.2] 93)).chg hC3 (fun hm => own_ne h2 h1 (by decide) (by simpa using hm) rfl); have h73 := (h3.alloc (.cells #[.string x.1, .string x.2] 93)).chg hC3 (fun hm => own_ne h2 h3 (by decide) (by simpa using hm) rfl); have k3 : w3.cell? ⟨Bl, 0, none⟩ = some (.slice A1 pre.length c1) := hB3.cell 0; have f3 : w3.frozen? ⟨Bl, 0, none⟩ = false := hB3.frozen 0; have k7 : w3.cell? ⟨w.heap.size, 0, none⟩ = some (.int .i64 32) := h73.cell 0; change wpListIn _ _ _ _ _ _ _ _))
    have hlen1 : (pre ++ [x]).length = pre.length + 1 := by simp
    rw [hlen1] at ho3 hob
    obtain ⟨V', hV'⟩ : ∃ V', w3.setCell ⟨Bl, 0, none⟩ (.slice A3 (pre.length + 1) c3) = V' := ⟨_, rfl⟩
    have hCs : Chg [Bl] w3 V' := by rw [← hV']; exact (Chg.refl _ _).set _ (.inl (by simp)) _
    have hBl' : Blk V' Bl 94 #[.slice A3 (pre.length + 1) c3] := by rw [← hV']; exact hB3.setEq rfl
    rw [hV']
    clear hV'
    have hC13 : Chg ((Value.slice A1 pre.length c1).ownBlock.toList ++ [Bl]) V V' := (((Chg.refl _ V).alloc _).trans (hC3.mono (fun i hi => by simp at hi ⊢; exact .inl hi))).trans (hCs.mono (fun i hi => by simp at hi ⊢; exact .inr hi))
    have hown' : V'.ownsRow W2.heap.size 93 2 (.slice A3 (pre.length + 1) c3) (pre.length + 1) (prs (pre ++ [x])) := own_chg ho3 hCs (fun k hk hm => own_ne ho3 hB3 (by decide) hk (by simpa using hm))
    have hKp : KpS Bl 0 V V' := by
      refine ⟨_, hC13, fun k hk => .inl ?_, fun k hk => ?_, fun hl k hk => ?_⟩
      · rcases List.mem_append.1 hk with hk | hk
        · have hk2 : (Value.slice A1 pre.length c1).ownBlock = some k := by simpa using hk
          exact ⟨.inr ⟨_, h1, hk2⟩, own_cells h2 hk2⟩
        · simp at hk; subst hk
          exact ⟨.inl rfl, h1.isC⟩
      · rcases hk with hk | ⟨v, hv, ho⟩
        · exact .inl (.inl hk)
        · have e := hv.inj hBl'
          simp at e
          subst e
          rcases hob with e | e
          · exact .inl (.inr ⟨_, h1, e ▸ ho⟩)
          · rw [ho] at e
            cases e
            exact .inr (by simp)
      · rcases hk with hk | ⟨v, hv, ho⟩
        · rw [hk]; exact hBl'.lt
        · have e := hv.inj hBl'
          simp at e
          subst e
          exact (hown'.lt k ho).2
    refine ⟨hKp.from (Nat.zero_le _), hKp.mono (Nat.zero_le _), ⟨A3, c3, by rw [hlen1]; exact hBl', by rw [hlen1]; exact hown'⟩, h73.chg hCs (by simp; omega), h4.on hC13 (fun i hi => .inr ?_), Nat.le_trans h5 hC13.size⟩
    have hw2 := hCw2.size
    rcases List.mem_append.1 hi with hi | hi
    · have := (h2.lt i (by simpa using hi)).1; omega
    · simp at hi; omega
  case done =>
    rintro D V hD ⟨⟨A1, c1, h1, h2⟩, h3, h4, h5⟩ hK
    have dl : V.cell? ⟨Bl, 0, none⟩ = some (.slice A1 (til high (fil key (flat ls))).length c1) := h1.cell 0
    gi_wp2
    refine ⟨by simp, .inl ⟨_, _, rfl, run_takeDeferred hK, ?_⟩⟩
    have hCd : Chg [D] V (V.putObj D (.deferred none)) := Chg.of_grown (grownBy_putObj' V D _)
    have hw2 := hCw2.size
    refine ⟨_, results_tmp2 rfl _ _ _, _, rfl, ?_, h4.on hCd (fun i hi => .inr (by simp at hi; omega))⟩
    refine own_base (own_chg h2 hCd (fun k hk hm => ?_)) hw2
    obtain ⟨o1, e1, e2⟩ := own_cells h2 hk
    simp at hm
    subst hm
    rw [hK] at e1; cases e1; cases e2
  case stop =>
    rintro D pre V hD hpx h hK
    exact h.elim

end Go.Proofs.YtpcaadipejnllaaGreatDoor

/- Lists of rows in memory; all rows of a base. -/
set_option linter.unusedVariables false
set_option linter.unusedSimpArgs false
namespace Go.Proofs.YtpcaadipejnllaaGreatDoor
open Go.RowKit

/-- The slice v is a list of rows of the call's own. -/
def RowsV (w : World) (base : Nat) (v : Value) (rows : List (List Cl)) : Prop :=
  ∃ vals : List Value, w.ownsRow base 42 1 v rows.length vals ∧ ∀ (i : Nat) (r : List Cl), rows[i]? = some r → ∃ u B, vals[i]? = some u ∧ w.ownsRow B 62 5 u r.length (cls r)
section
variable {w w' : World} {base : Nat} {v : Value} {rows : List (List Cl)}
theorem RowsV.ext (h : RowsV w base v rows) (hC : Chg [] w w') : RowsV w' base v rows := by
  obtain ⟨vals, h1, h2⟩ := h
  exact ⟨vals, own_ext h1 hC, fun i r hr => by obtain ⟨u, B, h3, h4⟩ := h2 i r hr; exact ⟨u, B, h3, own_ext h4 hC⟩⟩
theorem RowsV.far (h : RowsV w base v rows) {x : Nat} {ty : TypeId} {cs : Array Value} (hx : Blk w x ty cs) (h1 : ty ≠ 42) (h2 : ty ≠ 62) (hC : Chg [x] w w') : RowsV w' base v rows := by
  obtain ⟨vals, a1, a2⟩ := h
  exact ⟨vals, own_chg a1 hC (fun k hk hm => own_ne a1 hx h1.symm hk (by simpa using hm)), fun i r hr => by obtain ⟨u, B, h3, h4⟩ := a2 i r hr; exact ⟨u, B, h3, own_chg h4 hC (fun k hk hm => own_ne h4 hx h2.symm hk (by simpa using hm))⟩⟩
theorem RowsV.nil (w : World) (base : Nat) : RowsV w base (.slice none 0 0) [] := ⟨[], World.ownsRow_nil _ _ _ _, fun i r hr => by simp at hr⟩
theorem RowsV.lt (h : RowsV w base v rows) : ∀ k, v.ownBlock = some k → base ≤ k ∧ k < w.heap.size := by
  obtain ⟨vals, h1, _⟩ := h
  exact h1.lt
theorem RowsV.lower (h : RowsV w base v rows) {b : Nat} (hb : b ≤ base) : RowsV w b v rows := by
  obtain ⟨vals, h1, h2⟩ := h
  exact ⟨vals, own_base h1 hb, h2⟩
theorem RowsV.form (h : RowsV w base v rows) : ∃ A c, v = .slice A rows.length c ∧ rows.length ≤ c ∧ c ≤ maxLen := by
  obtain ⟨vals, h1, _⟩ := h
  exact (Sl.own h1).form
theorem RowsV.at_ {A : Option Addr} {n c : Nat} (h : RowsV w base (.slice A n c) rows) {i : Nat} {r : List Cl} (hr : rows[i]? = some r) : ∃ s o u B, A = some ⟨s, o, none⟩ ∧ s < w.heap.size ∧ w.cell? ⟨s, o + i, none⟩ = some u ∧ w.ownsRow B 62 5 u r.length (cls r) := by
  obtain ⟨vals, h1, h2⟩ := h
  have hil := (List.getElem?_eq_some_iff.1 hr).1
  obtain ⟨s, o, c', e, hs, hx⟩ := own_at h1 (by omega)
  obtain ⟨u, B, h3, h4⟩ := h2 i r hr
  injection e with e1 e2 e3
  exact ⟨s, o, u, B, e1, hs, by rw [hx i (by omega), h3], h4⟩
end
theorem info42 : (Tryz.prog.info? 42).map (fun i => (i.zero, i.size, i.bytes)) = some (some (.slice none 0 0), 1, 24) := by kernel_rfl
theorem wpList_append_rw {w : World} {ops : Array Oper} {rest : List Oper} {o : Oper} {a : Act} {Q : Exit → Act → World → Prop} (hgd : o.guard = none) (s x : Operand)
    (ho : o.op = .call { callee := .builtin .append, args := #[s, x], argTypes := #[50, 50] })
    (base : Nat) (v : Value) (rows : List (List Cl)) (hs : a.eval s = v) (hown : RowsV w base v rows) (b : Nat) (r : List Cl) (u : Value) (B : Nat) (hx : a.eval x = .slice (some ⟨b, 0, none⟩) 1 1) (hb : Blk w b 42 #[u]) (hu : w.ownsRow B 62 5 u r.length (cls r)) (hl : rows.length ≤ 2000) (hbase : base ≤ w.heap.size)
    (h : ∀ v' w', RowsV w' base v' (rows ++ [r]) → Chg v.ownBlock.toList w w' → wpList Tryz.prog ops Q rest (a.put o.dst v') w') : wpList Tryz.prog ops Q (o :: rest) a w := by
  obtain ⟨vals, h1, h2⟩ := hown
  have hvl := h1.1
  obtain ⟨i0, hi, hz0, hz1, hz2⟩ := info_parts info42
  refine wpList_append_own w hgd s x 50 ho base 42 i0 _ 1 24 Tryz.underlying50 hi hz0 hz1 hz2 rfl (by decide) v rows.length vals hs h1 ⟨b, 0, none⟩ 1 1 [u] hx rfl (fun j z hj => ?_) (fun z hz => ?_) (by unfold maxLen; omega) (by omega) hbase (fun v' w' h3 h4 _ => h v' w' ?_ (Chg.of_grown h4))
  · rw [add_mk, Nat.zero_add, hb.cell, ← Array.getElem?_toList]
    exact hj
  · have : z = u := by simpa using hz
    rw [this]; exact own_one hu
  · have hC := Chg.of_grown h4
    refine ⟨vals ++ [u], by rw [List.length_append]; exact h3, fun i q hq => ?_⟩
    by_cases hi2 : i < rows.length
    · rw [List.getElem?_append_left hi2] at hq
      obtain ⟨z, B', h5, h6⟩ := h2 i q hq
      exact ⟨z, B', by rw [List.getElem?_append_left (by omega)]; exact h5, own_chg h6 hC (fun k hk hm => own_apart h6 h1 (by decide) hk (by simpa using hm))⟩
    · have hil := (List.getElem?_eq_some_iff.1 hq).1
      have : i = rows.length := by simp at hil; omega
      subst this
      rw [List.getElem?_append_right (Nat.le_refl _), Nat.sub_self] at hq
      have : r = q := by simpa using hq
      subst this
      exact ⟨u, B, by rw [List.getElem?_append_right (by omega), show rows.length - vals.length = 0 by omega]; rfl, own_chg hu hC (fun k hk hm => own_apart hu h1 (by decide) hk (by simpa using hm))⟩

set_option maxRecDepth 100000 in
set_option maxHeartbeats 1000000 in
theorem brows_w (bb mb base : Nat) (t : Tb) (vk vr vx v : Value) (L : List Pr) (rows : List (List Cl)) (w : World) (h : BasS w bb mb base t vk vr vx v L) (hG : Gv w) (ht : t.n < 255) (hsel : sel t.n L = rows.map fun l => (rkey t l, rval t l))
    (hrows : ∀ l ∈ rows, RowOk t l ∧ (rkey t l).size ≤ 24 ∧ (rval t l).size ≤ 40) (hr2 : rows.length ≤ 1000) :
    Calls Tryz.prog 17 #[.pointer (some ⟨bb, 0, none⟩)] w fun e w' => ∃ v', e = .returned v' ∧ RowsV w' w.heap.size v' rows ∧ Chg [] w w' := by
  have hB := h.b
  have hks := h.ks
  have hrs := h.rs
  have hwi := fun w' hm => within_b mb base t.n v L w' hm
  rw [hsel, List.length_map] at hwi
  have e1 : one (t.n + 1) = ⟨#[UInt8.ofNat t.n + 1]⟩ := by simp [one]
  rw [e1] at hwi
  clear e1
  have Hwi := Lib.hid hwi
  have Hrows := Lib.hid hrows
  clear hwi hsel hrows
  go_enter Tryz.func17, Tryz.ntmps17
  go_wp2_with (first
    | (go_at_call 34; refine (bnone_w bb mb base t vk vr vx v L _ h).mono ?_; rintro e w9 ⟨rfl, rfl⟩)
    | (refine wpList_load_tb (by rfl) (.tmp 16) rfl bb mb rfl t vk vr vx hB ?_)
    | (go_at_call 43; refine (span_w t vk vr _ h.ok ht hks hrs hG).mono ?_; rintro e w1 ⟨rfl, hC1⟩; have c4 : w1.cell? ⟨bb, 4, none⟩ = some (.pointer (some ⟨mb, 0, none⟩)) := (hB.ext hC1).cell 4)
    | (go_at_call 48; refine (Hwi.out _ (h.m.ext hC1)).mono ?_; rintro e w2 ⟨vl, rfl, hol, hC2⟩; obtain ⟨A, c, rfl, hc1, hc2⟩ := (Sl.own hol).form))
  have hC12 := hC1.trans hC2
  go_loopw [6, 30] (fun v i wr => ∃ (k : Nat) (vo : Value), vo = v ∧ k ≤ rows.length ∧ i = .int .i64 k ∧ RowsV wr w2.heap.size vo (rows.take k) ∧ Chg [] w2 wr) (fun _ i _ => rows.length - (intOf i).toNat)
  case atStart => exact ⟨0, _, rfl, Nat.zero_le _, rfl, RowsV.nil _ _, Chg.refl _ _⟩
  case round =>
    obtain ⟨k, vo, rfl, hk, rfl, ho, hC⟩ := hrel
    by_cases hlt : k < rows.length
    · obtain ⟨l, hl⟩ : ∃ l, rows[k]? = some l := ⟨_, List.getElem?_eq_getElem hlt⟩
      obtain ⟨hl1, hl2, hl3⟩ := Hrows.out l (List.mem_of_getElem? hl)
      obtain ⟨s, o, c', e, hs, hxc⟩ := own_at hol (by omega)
      injection e with e1 e2 e3
      subst e1 e3
      have hr := prs_rng (l := rows.map fun l => (rkey t l, rval t l)) (k := k) (x := (rkey t l, rval t l)) (fun j hj => by rw [hC.cell hs (by simp)]; exact hxc j (by simpa using hj)) (by rw [List.getElem?_map, hl]; rfl)
      have hts : rows.take (k + 1) = rows.take k ++ [l] := take_one rows k l hl
      have hll : (rows.take k).length ≤ 2000 := by have h2 : (rows.take k).length ≤ k := List.length_take_le _ _; omega
      have Hts := Lib.hid hts
      have Hl := Lib.hid hl
      clear hts hl hxc
      go_upto_region 8 with (first
        | (refine wpList_load_rng (by rfl) 93 (.tmp 32) rfl s (o + k * 2) rfl _ _ hr Tryz.underlying93 rfl (by kernel_rfl) ?_))
      have hA : Chg [] wr (wr.alloc (.cells #[.string (rkey t l), .string (rval t l)] 93)) := (Chg.refl _ _).alloc _
      have hXb : Blk (wr.alloc (.cells #[.string (rkey t l), .string (rval t l)] 93)) wr.heap.size 93 #[.string (rkey t l), .string (rval t l)] := Blk.new _ _ _
      have hCA := (hC12.trans hC).trans hA
      have hks := hks.ext hCA
      have hrs := hrs.ext hCA
      have hGw := hG.chg hCA (by simp)
      have hB := hB.ext hCA
      have hSr : ∀ W, Chg [] (wr.alloc (.cells #[.string (rkey t l), .string (rval t l)] 93)) W → (W.rangeAt bb 0 (tbV t vk vr).toList ∧ W.cell? ⟨wr.heap.size, 0, none⟩ = some (.string (rkey t l)) ∧ W.cell? ⟨wr.heap.size, 1, none⟩ = some (.string (rval t l))) := fun W hW => ⟨base_tb (hB.ext hW), (hXb.ext hW).cell 0, (hXb.ext hW).cell 1⟩
      have hD0 : Chg [] (wr.alloc (.cells #[.string (rkey t l), .string (rval t l)] 93)) ((wr.alloc (.cells #[.string (rkey t l), .string (rval t l)] 93)).drew) := (Chg.refl _ _).drew
      refine wp_region_K (S := fun W => W.rangeAt bb 0 (tbV t vk vr).toList ∧ W.cell? ⟨wr.heap.size, 0, none⟩ = some (.string (rkey t l)) ∧ W.cell? ⟨wr.heap.size, 1, none⟩ = some (.string (rval t l))) 99 (by kernel_rfl) (hSr _ hD0) (fun hH => ?_)
      refine wpAnyK_take (i := 0) (v := .pointer (some ⟨bb, 0, none⟩)) rfl (by kernel_rfl) (by kernel_rfl) (by kernel_rfl) (by kernel_rfl) (by decide) (fun _ _ _ h => h) (Or.inl ⟨by rfl, fun w' hw' => by go_simp⟩) hH ?_
      try simp only [List.getElem_toArray, List.getElem_cons_succ, List.getElem_cons_zero, Act.put, List.setIfInBounds_toArray, List.set_cons_zero, List.set_cons_succ]
      refine wpAnyK_take (i := 1) (v := .pointer (some ⟨bb, 0, none⟩)) rfl (by kernel_rfl) (by kernel_rfl) (by kernel_rfl) (by kernel_rfl) (by decide) (fun _ _ _ h => h) (Or.inl ⟨by rfl, fun w' hw' => by go_simp⟩) hH ?_
      try simp only [List.getElem_toArray, List.getElem_cons_succ, List.getElem_cons_zero, Act.put, List.setIfInBounds_toArray, List.set_cons_zero, List.set_cons_succ]
      refine wpAnyK_take (i := 2) (v := .pointer (some ⟨bb, 0, none⟩)) rfl (by kernel_rfl) (by kernel_rfl) (by kernel_rfl) (by kernel_rfl) (by decide) (fun _ _ _ h => h) (Or.inl ⟨by rfl, fun w' hw' => by go_simp⟩) hH ?_
      try simp only [List.getElem_toArray, List.getElem_cons_succ, List.getElem_cons_zero, Act.put, List.setIfInBounds_toArray, List.set_cons_zero, List.set_cons_succ]
      refine wpAnyK_take (i := 3) rfl (by kernel_rfl) (by kernel_rfl) (by kernel_rfl) (by kernel_rfl) (by decide) (fun _ _ _ h => h) (yieldsIf_load_mid (by rfl) _ _ rfl (bb) (0) rfl ((tbV t vk vr).toList) _ (fun w' hw' => hw'.1) Tryz.underlying37 rfl (by kernel_rfl)) hH ?_
      try simp only [List.getElem_toArray, List.getElem_cons_succ, List.getElem_cons_zero, Act.put, List.setIfInBounds_toArray, List.set_cons_zero, List.set_cons_succ]
      refine wpAnyK_take (i := 4) (v := .pointer (some ⟨wr.heap.size, 0, none⟩)) rfl (by kernel_rfl) (by kernel_rfl) (by kernel_rfl) (by kernel_rfl) (by decide) (fun _ _ _ h => h) (Or.inl ⟨by rfl, fun w' hw' => by go_simp⟩) hH ?_
      try simp only [List.getElem_toArray, List.getElem_cons_succ, List.getElem_cons_zero, Act.put, List.setIfInBounds_toArray, List.set_cons_zero, List.set_cons_succ]
      refine wpAnyK_take (i := 5) (v := .string (rkey t l)) rfl (by kernel_rfl) (by kernel_rfl) (by kernel_rfl) (by kernel_rfl) (by decide) (fun _ _ _ h => h) (yieldsIf_load_cell (by rfl) 9 _ rfl (wr.heap.size) (0) rfl _ (fun w' hw' => hw'.2.1) (fun w => Tryz.isAgg9 w)) hH ?_
      try simp only [List.getElem_toArray, List.getElem_cons_succ, List.getElem_cons_zero, Act.put, List.setIfInBounds_toArray, List.set_cons_zero, List.set_cons_succ]
      refine wpAnyK_take (i := 6) (v := .pointer (some ⟨wr.heap.size, 1, none⟩)) rfl (by kernel_rfl) (by kernel_rfl) (by kernel_rfl) (by kernel_rfl) (by decide) (fun _ _ _ h => h) (Or.inl ⟨by rfl, fun w' hw' => by go_simp⟩) hH ?_
      try simp only [List.getElem_toArray, List.getElem_cons_succ, List.getElem_cons_zero, Act.put, List.setIfInBounds_toArray, List.set_cons_zero, List.set_cons_succ]
      refine wpAnyK_take (i := 7) (v := .string (rval t l)) rfl (by kernel_rfl) (by kernel_rfl) (by kernel_rfl) (by kernel_rfl) (by decide) (fun _ _ _ h => h) (yieldsIf_load_cell (by rfl) 9 _ rfl (wr.heap.size) (1) rfl _ (fun w' hw' => hw'.2.2) (fun w => Tryz.isAgg9 w)) hH ?_
      try simp only [List.getElem_toArray, List.getElem_cons_succ, List.getElem_cons_zero, Act.put, List.setIfInBounds_toArray, List.set_cons_zero, List.set_cons_succ]
      refine wpAnyK_ready (rs := [8]) (by kernel_rfl) (by simp) ?_
      refine AllReadyK.cons rfl (fun K hK => ?_) AllReadyK.nil
      go_simp
      refine (read_row t vk vr l _ hl1 (hks.ext hD0) (hrs.ext hD0) (hGw.chg hD0 (by simp)) hl2 hl3).mono ?_
      rintro e W1 ⟨u, rfl, hu, hC2⟩
      have hD1 := hD0.trans hC2
      obtain ⟨Au, cu, rfl, hcu, hcm⟩ := (Sl.own hu).form
      refine hK.out _ _ (hSr _ hD1) (fun hH => ?_)
      clear hK K
      try simp only [List.getElem_toArray, List.getElem_cons_succ, List.getElem_cons_zero, Act.put, List.setIfInBounds_toArray, List.set_cons_zero, List.set_cons_succ]
      refine wpAnyK_take (i := 9) (v := .tuple #[.slice Au l.length cu, .int .i64 0]) rfl (by kernel_rfl) (by kernel_rfl) (by kernel_rfl) (by kernel_rfl) (by decide) (fun _ _ _ h => h) (Or.inl ⟨by rfl, fun w' hw' => by go_simp⟩) hH ?_
      try simp only [List.getElem_toArray, List.getElem_cons_succ, List.getElem_cons_zero, Act.put, List.setIfInBounds_toArray, List.set_cons_zero, List.set_cons_succ]
      refine wpAnyK_take (i := 10) (v := .slice Au l.length cu) rfl (by kernel_rfl) (by kernel_rfl) (by kernel_rfl) (by kernel_rfl) (by decide) (fun _ _ _ h => h) (Or.inl ⟨by rfl, fun w' hw' => by go_simp⟩) hH ?_
      try simp only [List.getElem_toArray, List.getElem_cons_succ, List.getElem_cons_zero, Act.put, List.setIfInBounds_toArray, List.set_cons_zero, List.set_cons_succ]
      refine wpAnyK_take (i := 11) (v := .int .i64 0) rfl (by kernel_rfl) (by kernel_rfl) (by kernel_rfl) (by kernel_rfl) (by decide) (fun _ _ _ h => h) (Or.inl ⟨by rfl, fun w' hw' => by go_simp⟩) hH ?_
      try simp only [List.getElem_toArray, List.getElem_cons_succ, List.getElem_cons_zero, Act.put, List.setIfInBounds_toArray, List.set_cons_zero, List.set_cons_succ]
      refine wpAnyK_take (i := 12) (v := .slice Au l.length cu) rfl (by kernel_rfl) (by kernel_rfl) (by kernel_rfl) (by kernel_rfl) (by decide) (fun _ _ _ h => h) (Or.inl ⟨by rfl, fun w' hw' => by go_simp⟩) hH ?_
      try simp only [List.getElem_toArray, List.getElem_cons_succ, List.getElem_cons_zero, Act.put, List.setIfInBounds_toArray, List.set_cons_zero, List.set_cons_succ]
      refine wpAnyK_take (i := 13) (v := .int .i64 0) rfl (by kernel_rfl) (by kernel_rfl) (by kernel_rfl) (by kernel_rfl) (by decide) (fun _ _ _ h => h) (Or.inl ⟨by rfl, fun w' hw' => by go_simp⟩) hH ?_
      try simp only [List.getElem_toArray, List.getElem_cons_succ, List.getElem_cons_zero, Act.put, List.setIfInBounds_toArray, List.set_cons_zero, List.set_cons_succ]
      refine wpAnyK_done (by kernel_rfl) ?_ _
      have ho1 := ho.ext (hA.trans hD1)
      have hbl := (hC.trans (hA.trans hD1)).size
      go_wp2_with (first
        | (at_builtin; go_loud (refine wpList_append_rw rfl _ _ rfl w2.heap.size vo (rows.take k) rfl (ho1.ext ((Chg.refl _ _).alloc _)) _ l (.slice Au l.length cu) _ rfl (Blk.newEq (by first | rfl | simp)) (hu.alloc _) hll (by simp; omega) ?_); intro v3 w3 ho3 hC3))
      go_roundw
      case rel =>
        refine ⟨k + 1, v3, rfl, by omega, by go_num, ?_, ((hC.trans (hA.trans hD1)).alloc _).on hC3 (fun i hi => .inr (ho.lt i (by simpa using hi)).1)⟩
        rw [Hts.out]; exact ho3
      case measure => simp [intOf]; omega
    · obtain rfl : k = rows.length := by omega
      rw [List.take_of_length_le (Nat.le_refl _)] at ho
      go_wp2
      go_ret
      exact ⟨vo, rfl, ho.lower hC12.size, hC12.trans hC⟩

end Go.Proofs.YtpcaadipejnllaaGreatDoor
