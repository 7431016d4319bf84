/- The root is settled. -/
import Derived.Test.YtpcaadipejnllaaGreatDoorPart08
import Derived.Test.YtpcaadipejnllaaGreatDoorPart13
import Derived.Test.YtpcaadipejnllaaGreatDoorPart07

set_option linter.unusedVariables false
set_option linter.unusedSimpArgs false
namespace Go.Proofs.YtpcaadipejnllaaGreatDoor
open Go.RowKit

set_option maxRecDepth 100000 in
set_option maxHeartbeats 1000000 in
theorem top_write (wb ba bm bw fr rt : Nat) (pgs : Nat → List Nat) (n : Nat) (g : PG) (v : Value) (w : World) (hW : WA w wb ba bm bw fr rt pgs) (hS : Sl w 2 v g.l.length (prs g.l)) (hvb : ∀ k, v.ownBlock = some k → k < w.heap.size)
    (hg : g.Ok) (hO : OkS g.l) (hlen : g.l.length ≤ 1000) (h108 : load g.l ≤ 108) (hns : g.lvl = 0 ∨ (0 < g.lvl ∧ g.l.length ≠ 1)) (h0 : 1 ≤ n) (h1 : n ≤ 40) (hu : usedB pgs n = true) (hr : rt ≤ 40) :
    Calls Tryz.prog 117 #[.pointer (some ⟨wb, 0, none⟩), .agg (partA n g v)] w fun e w' => ∃ pg, e = .returned (.tuple #[]) ∧ IsPage pg g ∧ WA w' wb ba bm bw fr rt (upd pgs n pg) ∧ Chg [wb, bw] w w' := by
  have hS0 := hS
  obtain ⟨A, c, rfl, hc1, hc2⟩ := hS.form
  have hB0 : Blk (w.alloc (.cells (partA n g (.slice A g.l.length c)) 199)) w.heap.size 199 _ := Blk.new w 199 _
  obtain ⟨x0, x1, x2, x3, x4, x5⟩ := partA_cells hB0
  have hC0 : Chg [] w (w.alloc (.cells (partA n g (.slice A g.l.length c)) 199)) := (Chg.refl _ _).alloc _
  have z1 : decide ((108 : Int) < (load g.l : Int)) = false := decide_eq_false (by omega)
  have z2 : g.lvl = 0 → decide (0 < g.lvl) = false := fun h => decide_eq_false (by omega)
  have z3 : g.l.length ≠ 1 → ((g.l.length : Int) == 1) = false := fun h => by rw [beq_eq_false_iff_ne]; omega
  clear x0 x2 x3 x4
  have hmain : ∀ w1, Chg [] (w.alloc (.cells (partA n g (.slice A g.l.length c)) 199)) w1 → w1.cell? ⟨w.heap.size, 1, none⟩ = some (.int .i64 g.lvl) ∧ w1.cell? ⟨w.heap.size, 5, none⟩ = some (.slice A g.l.length c) := fun w1 hC1 => by
    have hB1 := hB0.ext hC1
    obtain ⟨x0, x1, x2, x3, x4, x5⟩ := partA_cells hB1
    exact ⟨x1, x5⟩
  have Hm := Lib.hid hmain
  clear hmain x1
  have Hz2 := Lib.hid z2
  have Hz3 := Lib.hid z3
  clear z2 z3
  rcases hns with h | ⟨h, h'⟩
  · have z2 := Hz2.out h
    have H := Lib.hid h
    clear h
    go_enter Tryz.func117, Tryz.ntmps117
    go_wp2_with (first
      | (go_at_call 148; refine (tcost_w g.l _ _ (hS0.ext hC0) hO hlen).mono ?_; rintro e w1 ⟨rfl, hC1⟩; have hB1 := hB0.ext hC1; have hCC1 := hC0.trans hC1; clear x5; obtain ⟨m1, m2⟩ := Hm.out w1 hC1)
      | (refine wpList_load_row rfl 199 (.tmp 3) rfl w.heap.size rfl 199 (partA n g (.slice A g.l.length c)) (0, 0) _ hB1 Tryz.underlying199 rfl (by kernel_rfl) ?_)
      | (go_at_call 151; go_loud (refine (twrite_w wb ba bm bw fr rt pgs n g (.slice A g.l.length c) _ ⟨Blk.ext hW.wk hCC1, hW.ar.ext hCC1, hW.na, hW.nm, hW.nw⟩ (hS0.ext hCC1) (fun k hk => Nat.lt_of_lt_of_le (hvb k hk) hCC1.size) hg h0 h1 hu hr).mono ?_; rintro e w2 ⟨pg, rfl, hP, hW2, hC2⟩)))
    go_end0
    exact ⟨pg, rfl, hP, hW2, (hCC1.mono (by simp)).trans hC2⟩
  · have z2 : decide (0 < g.lvl) = true := decide_eq_true (by omega)
    have z3 := Hz3.out h'
    clear h'
    go_enter Tryz.func117, Tryz.ntmps117
    go_wp2_with (first
      | (go_at_call 148; refine (tcost_w g.l _ _ (hS0.ext hC0) hO hlen).mono ?_; rintro e w1 ⟨rfl, hC1⟩; have hB1 := hB0.ext hC1; have hCC1 := hC0.trans hC1; clear x5; obtain ⟨m1, m2⟩ := Hm.out w1 hC1)
      | (refine wpList_load_row rfl 199 (.tmp 3) rfl w.heap.size rfl 199 (partA n g (.slice A g.l.length c)) (0, 0) _ hB1 Tryz.underlying199 rfl (by kernel_rfl) ?_)
      | (go_at_call 151; go_loud (refine (twrite_w wb ba bm bw fr rt pgs n g (.slice A g.l.length c) _ ⟨Blk.ext hW.wk hCC1, hW.ar.ext hCC1, hW.na, hW.nm, hW.nw⟩ (hS0.ext hCC1) (fun k hk => Nat.lt_of_lt_of_le (hvb k hk) hCC1.size) hg h0 h1 hu hr).mono ?_; rintro e w2 ⟨pg, rfl, hP, hW2, hC2⟩)))
    go_end0
    exact ⟨pg, rfl, hP, hW2, (hCC1.mono (by simp)).trans hC2⟩

theorem num_or64w (n a b : Nat) (h : n ≤ 511) (ha : a = n / 256 % 256) (hb : b = n % 256 % 256) : bits .or .i64 (wrap64 (wrap64 (a : Int) * 256)) (wrap64 (b : Int)) = (n : Int) := by
  have e1 : wrap64 (a : Int) = (a : Int) := by unfold wrap64; omega
  have e2 : wrap64 (b : Int) = (b : Int) := by unfold wrap64; omega
  have e3 : wrap64 ((a : Int) * 256) = (a : Int) * 256 := by unfold wrap64; omega
  rw [e1, e2, e3]
  exact num_or2 n a b h ha hb

theorem troot_v (wb ba bm bw fr rt : Nat) (pgs : Nat → List Nat) (n : Nat) (z : Int) (w : World) (hz : z = (n : Int)) (hW : WA w wb ba bm bw fr rt pgs)
    (h0 : 1 ≤ n) (h1 : n ≤ 40) (hu : usedB pgs n = true) (hr : rt ≤ 40) :
    Calls Tryz.prog 156 #[.pointer (some ⟨wb, 0, none⟩), .int .i64 z] w fun e w' => e = .returned (.tuple #[]) ∧ WA w' wb ba bm bw fr n pgs ∧ Chg [wb, bw] w w' := hz ▸ troot_w wb ba bm bw fr rt pgs n w hW h0 h1 hu hr

set_option maxRecDepth 100000 in
set_option maxHeartbeats 1000000 in
theorem top_one (wb ba bm bw fr rt : Nat) (pgs : Nat → List Nat) (n q : Nat) (k0 : ByteArray) (g : PG) (v : Value) (w : World) (hW : WA w wb ba bm bw fr rt pgs) (hS : Sl w 2 v g.l.length (prs g.l)) (hgl : g.l = [(k0, numS q)])
    (hO : OkS g.l) (h108 : load g.l ≤ 108) (hlv : 0 < g.lvl) (h0 : 1 ≤ n) (h1 : n ≤ 40) (hu : usedB pgs n = true) (hr : rt ≤ 40) (hf : fr ≤ 40) (q0 : 1 ≤ q) (q1 : q ≤ 40) (hqu : usedB pgs q = true) (hnq : n ≠ q) :
    Calls Tryz.prog 117 #[.pointer (some ⟨wb, 0, none⟩), .agg (partA n g v)] w fun e w' => e = .returned (.tuple #[]) ∧ WA w' wb ba bm bw n q (upd pgs n (freePg fr)) ∧ Chg [wb, bw] w w' := by
  have hS0 := hS
  have hl1 : g.l.length = 1 := by rw [hgl]; rfl
  obtain ⟨A, c, rfl, hc1, hc2⟩ := hS.form
  obtain ⟨s, o, rfl, hs, hx⟩ := hS.at_ (by omega)
  have hB0 : Blk (w.alloc (.cells (partA n g (.slice (some ⟨s, o, none⟩) g.l.length c)) 199)) w.heap.size 199 _ := Blk.new w 199 _
  obtain ⟨x0, x1, x2, x3, x4, x5⟩ := partA_cells hB0
  have hC0 : Chg [] w (w.alloc (.cells (partA n g (.slice (some ⟨s, o, none⟩) g.l.length c)) 199)) := (Chg.refl _ _).alloc _
  have z1 : decide ((108 : Int) < (load g.l : Int)) = false := decide_eq_false (by omega)
  have z2 : decide (0 < g.lvl) = true := decide_eq_true hlv
  have d2 := hx 1 (by omega)
  have hp1 : (prs g.l)[1]? = some (.string (numS q)) := by rw [hgl]; rfl
  rw [hp1] at d2
  have hs8 := numS_size q
  have b6 : ((numS q)[6]'(by omega)).toNat = q / 256 % 256 := by rw [byteAt_in (numS q) (by omega), numS_byte q 6 (by omega)]; rfl
  have b7 : ((numS q)[7]'(by omega)).toNat = q % 256 % 256 := by rw [byteAt_in (numS q) (by omega), numS_byte q 7 (by omega)]; rfl
  have hnum : bits BinOp.or IntKind.i64 (wrap64 (wrap64 (((numS q)[6]'(by omega)).toNat : Int) * 256)) (wrap64 (((numS q)[7]'(by omega)).toNat : Int)) = (q : Int) := num_or64w q _ _ (by omega) b6 b7
  have hlen : g.l.length ≤ 1000 := by omega
  have z3 : ((g.l.length : Int) == 1) = true := by rw [hl1]; rfl
  have hpos : 0 < g.l.length := by omega
  have Hnum := Lib.hid hnum
  clear x0 x1 x2 x3 x4 hgl hl1 b6 b7 hp1 hx hnum
  have hwl := Blk.lt hW.wk
  have hlt := hW.ar.lt
  go_enter Tryz.func117, Tryz.ntmps117
  go_wp2_with (first
    | (go_at_call 148; refine (tcost_w g.l _ _ (hS0.ext hC0) hO hlen).mono ?_; rintro e w1 ⟨rfl, hC1⟩; have hB1 := hB0.ext hC1; have hCC1 := hC0.trans hC1; clear x5; obtain ⟨m0, m1, m2, m3, m4, m5⟩ := partA_cells hB1; clear m2 m3 m4; have d3 : w1.cell? ⟨s, o + 1, none⟩ = some (.string (numS q)) := (by rw [hCC1.cell hs (by simp)]; exact d2)))
  refine wp_region_tail 9 (by kernel_rfl) (by kernel_rfl) ?_
  simp only [List.take_succ_cons, List.take_zero, List.drop_succ_cons, List.drop_zero]
  repeat still_step
  refine wpStill_nil ?_
  have hW1 : WA w1.drew wb ba bm bw fr rt pgs := ⟨Blk.ext hW.wk hCC1.drew, hW.ar.ext hCC1.drew, hW.na, hW.nm, hW.nw⟩
  have hP1 : Blk w1.drew w.heap.size 199 _ := hB1
  go_wp2_with (first
    | (go_at_call 156; go_loud (refine (troot_v wb ba bm bw fr rt pgs q _ _ Hnum.out hW1 q0 q1 hqu hr).mono ?_; rintro e w2 ⟨rfl, hW2, hC2⟩; have p0 := (partA_cells (hP1.chg hC2 (by simp; omega))).1))
    | (go_at_call 153; go_loud (refine (trelease_w wb ba bm bw fr q pgs n _ hW2 hf h0 h1 hu (by omega) hnq.symm).mono ?_; rintro e w3 ⟨rfl, hW3, hC3⟩)))
  go_end0
  exact ⟨rfl, hW3, (((hCC1.mono (by simp)).drew).trans hC2).trans hC3⟩

theorem root_v (left right : Nat) (low key : ByteArray) (w : World) (h1 : 1 ≤ left) (h2 : left ≤ 511) (h3 : 1 ≤ right) (h4 : right ≤ 511) (hne : left ≠ right) (hk0 : 0 < key.size) (hk : key.size ≤ 24) (hl : low = key) :
    Calls Tryz.prog 155 #[.int .i64 1, .int .i64 left, .int .i64 right, .string low] w fun e w' => ∃ pg, e = .returned (.tuple #[.agg (nums pg), .int .i64 0]) ∧ IsPage pg (root2 left right key) ∧ Chg [] w w' := hl ▸ root_w left right low w h1 h2 h3 h4 hne (hl ▸ hk0) (hl ▸ hk)

set_option maxRecDepth 100000 in
set_option maxHeartbeats 1000000 in
theorem top_split (wb ba bm bw fr rt : Nat) (pgs : Nat → List Nat) (n : Nat) (g : PG) (v : Value) (w : World) (hW : WA w wb ba bm bw fr rt pgs) (hS : Sl w 2 v g.l.length (prs g.l)) (hvb : ∀ k, v.ownBlock = some k → k < w.heap.size)
    (hO : OkS g.l) (hlen : g.l.length ≤ 1000) (h2 : 2 ≤ g.l.length) (h109 : 109 ≤ load g.l) (hld : load g.l ≤ 10000) (hlv : g.lvl = 0)
    (hR : ∀ k y, HalfAt g.l k → g.l[k]? = some y → (rightOf g k y).Ok ∧ 0 < y.1.size ∧ y.1.size ≤ 24) (hL : ∀ k y, HalfAt g.l k → g.l[k]? = some y → (leftOf g k y fr).Ok) (f0 : 1 ≤ fr) (f1 : fr ≤ 40) (f2 : 1 ≤ (wd (pgs fr) 10).toNat) (f3 : (wd (pgs fr) 10).toNat ≤ 40) (f4 : (wd (pgs fr) 10).toNat ≠ fr) (f5 : (wd (pgs fr) 10).toNat ≠ n)
    (h0 : 1 ≤ n) (h1 : n ≤ 40) (hu : usedB pgs n = true) (hr : rt ≤ 40) (hnf : n ≠ fr) (hvn : ∀ k, v.ownBlock = some k → k ≠ wb ∧ k ≠ bw) :
    Calls Tryz.prog 117 #[.pointer (some ⟨wb, 0, none⟩), .agg (partA n g v)] w fun e w' => ∃ (k : Nat) (y : Pr) (pgR pgL pgT : List Nat), e = .returned (.tuple #[]) ∧ HalfAt g.l k ∧ g.l[k]? = some y ∧ IsPage pgR (rightOf g k y) ∧ IsPage pgL (leftOf g k y fr) ∧ IsPage pgT (root2 n fr y.1) ∧
      WA w' wb ba bm bw (wd (pgs (wd (pgs fr) 10).toNat) 10).toNat (wd (pgs fr) 10).toNat (upd (upd (upd pgs fr pgR) n pgL) (wd (pgs fr) 10).toNat pgT) ∧ Chg [wb, bw] w w' := by
  have hS0 := hS
  obtain ⟨A, c, rfl, hc1, hc2⟩ := hS.form
  have hB0 : Blk (w.alloc (.cells (partA n g (.slice A g.l.length c)) 199)) w.heap.size 199 _ := Blk.new w 199 _
  obtain ⟨x0, x1, x2, x3, x4, x5⟩ := partA_cells hB0
  have hC0 : Chg [] w (w.alloc (.cells (partA n g (.slice A g.l.length c)) 199)) := (Chg.refl _ _).alloc _
  have z1 : decide ((108 : Int) < (load g.l : Int)) = true := decide_eq_true (by omega)
  have hwl := Blk.lt hW.wk
  have HLV := Lib.hid hlv
  clear x0 x1 x2 x3 x4 hlv
  go_enter Tryz.func117, Tryz.ntmps117
  go_wp2_with (first
    | (go_at_call 148; refine (tcost_w g.l _ _ (hS0.ext hC0) hO hlen).mono ?_; rintro e w1 ⟨rfl, hC1⟩; have hB1 := hB0.ext hC1; have hCC1 := hC0.trans hC1; clear x5)
    | (refine wpList_load_row rfl 199 (.tmp 3) rfl w.heap.size rfl 199 (partA n g (.slice A g.l.length c)) (0, 0) _ hB1 Tryz.underlying199 rfl (by kernel_rfl) ?_)
    | (go_at_call 149; go_loud (refine (divide_w wb ba bm bw fr rt pgs n g (.slice A g.l.length c) _ ⟨Blk.ext hW.wk hCC1, hW.ar.ext hCC1, hW.na, hW.nm, hW.nw⟩ (hS0.ext hCC1) (fun k hk => Nat.lt_of_lt_of_le (hvb k hk) hCC1.size) hO hlen h2 (fun k y a b => (hR k y a b).1) hL f0 f1 h0 h1 hu hr hnf hvn).mono ?_; rintro e w2 ⟨k, y, pgR, pgL, vL, vR, rfl, ⟨oL, oR⟩, hHalf, hy, hPR, hPL, hW2, hC2⟩; have hB2 := hB1.chg hC2 (by have := hW.ar.lt; simp; omega)))
    | (refine wpList_store_blk rfl 199 (.tmp 4) (.tmp 22) rfl w2.heap.size rfl (partA n (leftOf g k y fr) vL) rfl 199 _ ((Blk.new w2 199 _).alloc _) (by kernel_rfl) rfl (partA_one oL) ?_; intro w3 hC3 hs3 hB3; have hR3 := (Blk.newEq (w := w2.alloc _) (t := 199) (g := w2.heap.size + 1) (by simp)).chg hC3 (by simp))
    | (refine wpList_store_blk rfl 199 (.tmp 5) (.tmp 23) rfl (w2.heap.size + 1) rfl (partA fr (rightOf g k y) vR) rfl 199 _ hR3 (by kernel_rfl) rfl (partA_one oR) ?_; intro w4 hC4 hs4 hB4; have hwl2 := Blk.lt hW2.wk; have hlt2 := hW2.ar.lt; have hl2 := hB2.lt; have hCC4 : Chg [w2.heap.size, w2.heap.size + 1] w2 w4 := ((((Chg.refl _ w2).alloc _).alloc _).trans (hC3.mono (by simp))).trans (hC4.mono (by simp)); have hW4 := hW2.chg hCC4 (fun i hi => by simp at hi; omega); have cw := Blk.cell hW4.wk 1; obtain ⟨_, l1, _, _, _, _⟩ := partA_cells (hB2.chg hCC4 (by simp; omega)); rw [HLV.out] at l1; obtain ⟨m0, _, _, _, _, _⟩ := partA_cells (hB3.chg hC4 (by simp)); obtain ⟨r0, _, r2, _, _, _⟩ := partA_cells hB4; obtain ⟨hRk, hyk, hyk2⟩ := hR k y hHalf hy)
    | (go_at_call 155; go_loud (refine (root_v n fr _ y.1 _ h0 (by omega) f0 (by omega) hnf hyk hyk2 rfl).mono ?_; rintro e w5 ⟨pgT, rfl, hPT, hC5⟩; have hszT : (nums pgT).size = 128 := (by rw [nums_size]; exact hPT.head.len); have honeT : (nums pgT).all (·.oneCell') = true := nums_one _; have hW5 : WA w5 wb ba bm bw (wd (pgs fr) 10).toNat rt (upd (upd pgs fr pgR) n pgL) := ⟨Blk.ext hW4.wk hC5, hW4.ar.ext hC5, hW.na, hW.nm, hW.nw⟩; have hlt5 := hW5.ar.lt; have hwl5 := Blk.lt hW5.wk))
    | (refine wpList_store_blk rfl 72 (.tmp 6) (.tmp 40) rfl w5.heap.size rfl (nums pgT) rfl 72 _ (Blk.new w5 72 _) (hszT ▸ (by kernel_rfl)) (by rw [hszT]; rfl) honeT ?_; intro w6 hC6 hs6 hB6; have hW6 := (hW5.chg ((Chg.refl [] w5).alloc _) (by simp)).chg hC6 (fun i hi => by simp at hi; omega)))
  have hs6' : w6.heap.size = w5.heap.size + 1 := by rw [hs6]; simp
  have c0 := Blk.cell hW6.wk 0
  have hu72 := Tryz.underlying72
  have hi72 : (Tryz.prog.info? 72).map (·.size) = some (nums pgT).toList.length := by rw [Array.length_toList, hszT]; kernel_rfl
  have hS6 : ∀ W, Chg [bw] w6 W → W.cell? ⟨wb, 0, none⟩ = some (.pointer (some ⟨ba, 0, none⟩)) ∧ W.rangeAt w5.heap.size 0 (nums pgT).toList ∧ Chg [bw] w6 W := fun W hW' =>
    ⟨by rw [hW'.cell (Blk.lt hW6.wk) (by simpa using hW.nw)]; exact c0, fun j v hv => by rw [Nat.zero_add, (hB6.chg hW' (by simp; omega)).cell, ← Array.getElem?_toList]; exact hv, hW'⟩
  clear c0
  try simp only [Act.put, List.setIfInBounds_toArray, List.set_cons_zero, List.set_cons_succ]
  refine wp_region_held_drew (S := fun W => W.cell? ⟨wb, 0, none⟩ = some (.pointer (some ⟨ba, 0, none⟩)) ∧ W.rangeAt w5.heap.size 0 (nums pgT).toList ∧ Chg [bw] w6 W) (by kernel_rfl) (hS6 _ ((Chg.refl _ w6).drew)) (fun hH => ?_)
  refine wpAnyH_take (i := 0) (v := .pointer (some ⟨wb, 0, none⟩)) rfl (by kernel_rfl) (by kernel_rfl) (by kernel_rfl) (fun _ _ _ h => h) (Or.inl ⟨by rfl, fun w' hw' => by go_simp⟩) hH ?_
  try simp only [List.getElem_toArray, List.getElem_cons_succ, List.getElem_cons_zero, Act.put, List.setIfInBounds_toArray, List.set_cons_zero, List.set_cons_succ]
  refine wpAnyH_take (i := 1) (v := .pointer (some ⟨wb, 0, none⟩)) rfl (by kernel_rfl) (by kernel_rfl) (by kernel_rfl) (fun _ _ _ h => h) (Or.inl ⟨by rfl, fun w' hw' => by go_simp⟩) hH ?_
  try simp only [List.getElem_toArray, List.getElem_cons_succ, List.getElem_cons_zero, Act.put, List.setIfInBounds_toArray, List.set_cons_zero, List.set_cons_succ]
  refine wpAnyH_take (i := 2) (v := .pointer (some ⟨wb, 0, none⟩)) rfl (by kernel_rfl) (by kernel_rfl) (by kernel_rfl) (fun _ _ _ h => h) (Or.inl ⟨by rfl, fun w' hw' => by go_simp⟩) hH ?_
  try simp only [List.getElem_toArray, List.getElem_cons_succ, List.getElem_cons_zero, Act.put, List.setIfInBounds_toArray, List.set_cons_zero, List.set_cons_succ]
  refine wpAnyH_take (i := 3) (v := .pointer (some ⟨ba, 0, none⟩)) rfl (by kernel_rfl) (by kernel_rfl) (by kernel_rfl) (fun _ _ _ h => h) (yieldsIf_load_cell (by rfl) 64 _ rfl (wb) (0) rfl _ (fun w' hw' => hw'.1) (fun w => Tryz.isAgg64 w)) hH ?_
  try simp only [List.getElem_toArray, List.getElem_cons_succ, List.getElem_cons_zero, Act.put, List.setIfInBounds_toArray, List.set_cons_zero, List.set_cons_succ]
  refine wpAnyH_take (i := 4) rfl (by kernel_rfl) (by kernel_rfl) (by kernel_rfl) (fun _ _ _ h => h) (yieldsIf_load_mid (by rfl) _ _ rfl _ _ rfl (nums pgT).toList _ (fun w' hw' => hw'.2.1) hu72 rfl hi72) hH ?_
  try simp only [List.getElem_toArray, List.getElem_cons_succ, List.getElem_cons_zero, Act.put, List.setIfInBounds_toArray, List.set_cons_zero, List.set_cons_succ]
  refine wpAnyH_ready (rs := [5]) (by kernel_rfl) (by simp) ?_
  refine AllReadyH.cons rfl (fun K hK => ?_) AllReadyH.nil
  go_simp
  refine (alloc_s ba bm bw _ rt _ pgT _ (hW6.ar.ext ((Chg.refl [] w6).drew)) hPT.is hPT.valid f2 f3).mono ?_
  rintro e w7 ⟨rfl, hC7, hA7⟩
  refine hK.out _ _ (hS6 _ (((Chg.refl _ w6).drew).trans hC7)) (fun hH => ?_)
  clear hK K
  try simp only [List.getElem_toArray, List.getElem_cons_succ, List.getElem_cons_zero, Act.put, List.setIfInBounds_toArray, List.set_cons_zero, List.set_cons_succ]
  refine wpAnyH_take (i := 6) (v := .tuple #[.int .i64 ((wd (pgs fr) 10).toNat : Int), .int .i64 0]) rfl (by kernel_rfl) (by kernel_rfl) (by kernel_rfl) (fun _ _ _ h => h) (Or.inl ⟨by rfl, fun w' hw' => by go_simp⟩) hH ?_
  try simp only [List.getElem_toArray, List.getElem_cons_succ, List.getElem_cons_zero, Act.put, List.setIfInBounds_toArray, List.set_cons_zero, List.set_cons_succ]
  refine wpAnyH_take (i := 7) (v := .int .i64 ((wd (pgs fr) 10).toNat : Int)) rfl (by kernel_rfl) (by kernel_rfl) (by kernel_rfl) (fun _ _ _ h => h) (Or.inl ⟨by rfl, fun w' hw' => by go_simp⟩) hH ?_
  try simp only [List.getElem_toArray, List.getElem_cons_succ, List.getElem_cons_zero, Act.put, List.setIfInBounds_toArray, List.set_cons_zero, List.set_cons_succ]
  refine wpAnyH_take (i := 8) (v := .int .i64 0) rfl (by kernel_rfl) (by kernel_rfl) (by kernel_rfl) (fun _ _ _ h => h) (Or.inl ⟨by rfl, fun w' hw' => by go_simp⟩) hH ?_
  try simp only [List.getElem_toArray, List.getElem_cons_succ, List.getElem_cons_zero, Act.put, List.setIfInBounds_toArray, List.set_cons_zero, List.set_cons_succ]
  refine wpAnyH_take (i := 9) (v := .int .i64 ((wd (pgs fr) 10).toNat : Int)) rfl (by kernel_rfl) (by kernel_rfl) (by kernel_rfl) (fun _ _ _ h => h) (Or.inl ⟨by rfl, fun w' hw' => by go_simp⟩) hH ?_
  try simp only [List.getElem_toArray, List.getElem_cons_succ, List.getElem_cons_zero, Act.put, List.setIfInBounds_toArray, List.set_cons_zero, List.set_cons_succ]
  refine wpAnyH_take (i := 10) (v := .int .i64 0) rfl (by kernel_rfl) (by kernel_rfl) (by kernel_rfl) (fun _ _ _ h => h) (Or.inl ⟨by rfl, fun w' hw' => by go_simp⟩) hH ?_
  try simp only [List.getElem_toArray, List.getElem_cons_succ, List.getElem_cons_zero, Act.put, List.setIfInBounds_toArray, List.set_cons_zero, List.set_cons_succ]
  refine wpAnyH_done (by kernel_rfl) ?_ _
  have hK7 : Blk w7 wb 193 #[.pointer (some ⟨ba, 0, none⟩), .int .i64 0] := (Blk.drew hW6.wk).chg hC7 (by simpa using hW.nw)
  obtain ⟨fr2, hfr2⟩ : ∃ fr2, fr2 = (wd (pgs fr) 10).toNat := ⟨_, rfl⟩
  rw [← hfr2] at hA7 f2 f3 f4 f5 ⊢
  have hpf : upd (upd pgs fr pgR) n pgL fr2 = pgs fr2 := by rw [upd_far f5, upd_far f4]
  rw [hpf] at hA7
  have HF := Lib.hid hfr2
  clear hfr2 hpf
  have hut : usedB (upd (upd (upd pgs fr pgR) n pgL) fr2 pgT) fr2 = true := used_is (g := root2 n fr y.1) (by rw [upd_at]; exact hPT)
  have Hut := Lib.hid hut
  clear hut
  go_wp2_with (first
    | (refine wpList_store_one rfl 29 (.tmp 60) (.tmp 58) rfl wb 1 rfl (.int .i64 0) rfl 193 _ hK7 (by simp) (by kernel_rfl) rfl ?_; intro w8 hC8 hs8 hB8; have hW8 : WA w8 wb ba bm bw (wd (pgs fr2) 10).toNat rt (upd (upd (upd pgs fr pgR) n pgL) fr2 pgT) := ⟨hB8, hA7.chg hC8 (by simpa using hW.na.symm) (by simpa using hW.nm.symm) (by simpa using hW.nw.symm), hW.na, hW.nm, hW.nw⟩)
    | (go_at_call 156; go_loud (refine (troot_w wb ba bm bw _ rt _ fr2 _ hW8 f2 f3 Hut.out hr).mono ?_; rintro e w9 ⟨rfl, hW9, hC9⟩)))
  go_end0
  have hfr2 := HF.out
  subst hfr2
  refine ⟨k, y, pgR, pgL, pgT, rfl, hHalf, hy, hPR, hPL, hPT, hW9, ?_⟩
  have e1 : Chg [wb, bw] w w5 := (((hCC1.mono (by simp)).trans hC2).on hCC4 (fun i hi => .inr (by simp at hi; have := hC2.size; have := hCC1.size; omega))).nil hC5
  exact (((((e1.alloc _).on hC6 (fun i hi => .inr (by simp at hi; have := e1.size; omega))).drew).trans (hC7.mono (by simp))).trans (hC8.mono (by simp))).trans hC9

end Go.Proofs.YtpcaadipejnllaaGreatDoor

/- Steps of a way down are built. -/
set_option linter.unusedVariables false
set_option linter.unusedSimpArgs false
namespace Go.Proofs.YtpcaadipejnllaaGreatDoor
open Go.RowKit

theorem foldl_seg (off : Nat) : ∀ (l : List Value) (k : Nat) (cs : List Value), off + k + l.length ≤ cs.length → ((l.zipIdx k).foldl (fun (cs : Array Value) (x : Value × Nat) => cs.setIfInBounds (off + x.2) x.1) cs.toArray) = (cs.take (off + k) ++ l ++ cs.drop (off + k + l.length)).toArray
  | [], k, cs, h => by simp
  | v :: l, k, cs, h => by
    rw [List.zipIdx_cons, List.foldl_cons]
    have e : (cs.toArray).setIfInBounds (off + k) v = (cs.set (off + k) v).toArray := by simp
    show List.foldl _ ((cs.toArray).setIfInBounds (off + k) v) _ = _
    rw [e, foldl_seg off l (k + 1) _ (by simp at h ⊢; omega)]
    have := list_seg_step cs (off + k) v l (by simp at h; omega)
    rw [show off + (k + 1) = off + k + 1 by omega, this]
    rfl
theorem foldl_arr (off : Nat) (a cs : Array Value) (h : off + a.size ≤ cs.size) : a.zipIdx.foldl (fun (cs : Array Value) (x : Value × Nat) => cs.setIfInBounds (off + x.2) x.1) cs = (cs.toList.take off ++ a.toList ++ cs.toList.drop (off + a.size)).toArray := by
  have := foldl_seg off a.toList 0 cs.toList (by simpa using h)
  rw [← Array.foldl_toList]
  simpa using this
theorem foldl_whole (a cs : Array Value) (h : a.size = cs.size) : a.zipIdx.foldl (fun (cs : Array Value) (x : Value × Nat) => cs.setIfInBounds (0 + x.2) x.1) cs = a := by
  rw [foldl_arr 0 a cs (by omega)]
  have : cs.toList.drop (0 + a.size) = [] := List.drop_eq_nil_of_le (by rw [Array.length_toList]; omega)
  rw [this]
  simp

/-- The cells of a step. -/
def stepC (n at_ : Nat) (pg : List Nat) : List Value := .int .i64 n :: .int .i64 at_ :: (nums pg).toList
theorem stepC_len (n at_ : Nat) (pg : List Nat) (h : pg.length = 128) : (stepC n at_ pg).length = 130 := by simp [stepC, nums_size, h]
theorem stepC_one (n at_ : Nat) (pg : List Nat) : ∀ v ∈ stepC n at_ pg, v.oneCell' = true := by
  intro v hv
  simp only [stepC, List.mem_cons] at hv
  rcases hv with rfl | rfl | hv
  · rfl
  · rfl
  · exact nums_all pg v hv
theorem zc197 : Tryz.zeroCells197.size = 130 := by kernel_rfl

theorem run_build_step (w : World) (n at_ : Nat) (pg : List Nat) (h : pg.length = 128) :
    (Instr.build 197 #[(0, .int .i64 n), (1, .int .i64 at_), (2, .agg (nums pg))]).run Tryz.prog w = .ok (.agg (stepC n at_ pg).toArray) w := by
  have hs : (nums pg).size = 128 := by rw [nums_size]; exact h
  have hz := zc197
  obtain ⟨Z, hZ⟩ : ∃ Z, Z = Tryz.zeroCells197 := ⟨_, rfl⟩
  rw [← hZ] at hz
  have e := foldl_arr 2 (nums pg) ((Z.setIfInBounds 0 (.int .i64 n)).setIfInBounds 1 (.int .i64 at_)) (by simp; omega)
  have e2 : (((Z.setIfInBounds 0 (.int .i64 n)).setIfInBounds 1 (.int .i64 at_)).toList.take 2 ++ (nums pg).toList ++ ((Z.setIfInBounds 0 (.int .i64 n)).setIfInBounds 1 (.int .i64 at_)).toList.drop (2 + (nums pg).size)) = stepC n at_ pg := by
    have h1 : ((Z.setIfInBounds 0 (.int .i64 n)).setIfInBounds 1 (.int .i64 at_)).toList.drop (2 + (nums pg).size) = [] := List.drop_eq_nil_of_le (by simp; omega)
    rw [h1, List.append_nil]
    have h2 : ((Z.setIfInBounds 0 (.int .i64 n)).setIfInBounds 1 (.int .i64 at_)).toList.take 2 = [.int .i64 n, .int .i64 at_] := by
      apply List.ext_getElem?
      intro i
      rw [List.getElem?_take]
      match i with
      | 0 => simp [Array.getElem?_setIfInBounds, hz]
      | 1 => simp [Array.getElem?_setIfInBounds, hz]
      | i + 2 => rw [if_neg (by omega)]; rfl
    rw [h2]
    rfl
  rw [e2] at e
  simp only [Instr.build, Sem.run_bind, Tryz.zeroValue197, Result.andThen_ok, run_underlying Tryz.underlying197]
  rw [← hZ]
  simp [Instr.fill, Tryz.sizeOf3, Tryz.sizeOf72, Value.cells, hs, hz, Sem.run_bind]
  simpa [hs] using e

theorem run_buildSlice_step (w : World) (cs : Array Value) (h : cs.size = 130) :
    (Instr.buildSlice 194 1 #[(0, .agg cs)]).run Tryz.prog w = .ok (.slice (some ⟨w.heap.size, 0, none⟩) 1 1) (w.alloc (.cells cs 197)) := by
  have e := foldl_whole cs ((Array.range 130).map (Tryz.zeroCells197[· % Tryz.zeroCells197.size]!)) (by simpa using h)
  simp only [Instr.buildSlice, Sem.run_bind, run_underlying Tryz.underlying194, Result.andThen_ok, Tryz.sizeOf197, Tryz.zeroValue197]
  simp [Instr.fill, Value.cells, h, newRow, Sem.run_bind]
  simp [h] at e
  rw [e]

section
variable {ops : Array Oper} {rest : List Oper} {o : Oper} {a : Act} {w : World} {Q : Exit → Act → World → Prop}
theorem wpList_build_step (hgd : o.guard = none) (x y z : Operand) (ho : o.op = .build 197 #[(0, x), (1, y), (2, z)]) (n at_ : Nat) (pg : List Nat) (hx : a.eval x = .int .i64 n) (hy : a.eval y = .int .i64 at_) (hz : a.eval z = .agg (nums pg)) (hp : pg.length = 128)
    (h : wpList Tryz.prog ops Q rest (a.put o.dst (.agg (stepC n at_ pg).toArray)) w) : wpList Tryz.prog ops Q (o :: rest) a w := by
  refine wpList_plain hgd fun K hK => ?_
  have hr := run_build_step w n at_ pg hp
  unfold Oper.wp execOp
  simp only [ho, List.map_toArray, List.map_cons, List.map_nil, hx, hy, hz, Sem.run_bind, hr, Result.andThen_ok]
  exact hK _ _ h
theorem wpList_buildSlice_step (hgd : o.guard = none) (x : Operand) (ho : o.op = .buildSlice 194 1 #[(0, x)]) (cs : Array Value) (hx : a.eval x = .agg cs) (hs : cs.size = 130)
    (h : wpList Tryz.prog ops Q rest (a.put o.dst (.slice (some ⟨w.heap.size, 0, none⟩) 1 1)) (w.alloc (.cells cs 197))) : wpList Tryz.prog ops Q (o :: rest) a w := by
  refine wpList_plain hgd fun K hK => ?_
  have hr := run_buildSlice_step w cs hs
  unfold Oper.wp execOp
  simp only [ho, List.map_toArray, List.map_cons, List.map_nil, hx, Sem.run_bind, hr, Result.andThen_ok]
  exact hK _ _ h
end

end Go.Proofs.YtpcaadipejnllaaGreatDoor

/- The way down a tree. -/
set_option linter.unusedVariables false
set_option linter.unusedSimpArgs false
namespace Go.Proofs.YtpcaadipejnllaaGreatDoor
open Go.RowKit

theorem info197 : (Tryz.prog.info? 197).map (fun i => (i.zero, i.size, i.bytes)) = some (some (.agg Tryz.zeroCells197), 130, 1040) := by kernel_rfl

theorem arr_at (w : World) (t : TypeId) (l : List Value) : ∀ (j : Nat) (u : Value), l[j]? = some u → (w.alloc (.cells l.toArray t)).cell? ((⟨w.heap.size, 0, none⟩ : Addr).add j) = some u := by
  intro j u hj
  rw [add_mk, Nat.zero_add, (Blk.new w t l.toArray).cell]
  simpa using hj

set_option maxRecDepth 100000 in
set_option maxHeartbeats 1000000 in
theorem descend_one (ba bm bw fr rt : Nat) (pgs : Nat → List Nat) (key : ByteArray) (g : PG) (w : World) (hA : ArS w ba bm bw fr rt pgs) (h0 : 1 ≤ rt) (h1 : rt ≤ 40) (hP : IsPage (pgs rt) g) (hl : g.lvl = 0) :
    Calls Tryz.prog 114 #[.pointer (some ⟨ba, 0, none⟩), .string key] w fun e w' => ∃ v, e = .returned v ∧ w'.ownsRow w.heap.size 197 130 v 1 (stepC rt 0 (pgs rt)) ∧ Chg [] w w' := by
  obtain ⟨i0, hi0, hz0, hz1, hz2⟩ := info_parts info197
  have hlP := hP.head.len
  have hszP : (nums (pgs rt)).size = 128 := by rw [nums_size]; exact hlP
  go_enter Tryz.func114, Tryz.ntmps114
  go_wp2_with (first
    | (go_at_call 109; refine (root_s ba bm bw fr rt pgs _ hA (by omega)).mono ?_; rintro e w1 ⟨rfl, hC1⟩))
  refine wp_loop_rounds 1 ?_
  rw [rounds_succ]
  go_wp2_with (first
    | (go_at_call 129; refine (read_s ba bm bw fr rt pgs rt _ (hA.ext hC1) (by omega) (by omega)).mono ?_; rw [Int.toNat_natCast]; rintro e w3 ⟨rfl, hCw3⟩)
    | (refine wpList_store_blk rfl 72 (.tmp 7) (.tmp 18) rfl w3.heap.size rfl (nums (pgs rt)) rfl 72 _ (Blk.new w3 72 _) (hszP ▸ (by kernel_rfl)) (by rw [hszP]; rfl) (nums_one _) ?_; intro w4 hCw4 hsw4 hB4)
    | (refine wpList_load_row rfl 72 (.tmp 7) rfl w3.heap.size rfl 72 (nums (pgs rt)) (0, 0) _ hB5 Tryz.underlying72 rfl (hszP ▸ (by kernel_rfl)) ?_)
    | (refine wpList_load_row rfl 72 (.tmp 7) rfl w3.heap.size rfl 72 (nums (pgs rt)) (0, 0) _ hB4 Tryz.underlying72 rfl (hszP ▸ (by kernel_rfl)) ?_)
    | (go_at_call 144; refine (down_leaf (pgs rt) g key _ hP hl).mono ?_; rintro e w5 ⟨rfl, hCw5⟩; have hB5 := hB4.ext hCw5)
    | (refine wpList_build_step rfl _ _ _ rfl rt 0 (pgs rt) rfl rfl rfl hlP ?_)
    | (refine wpList_buildSlice_step rfl _ rfl (stepC rt 0 (pgs rt)).toArray rfl (by rw [List.size_toArray, stepC_len _ _ _ hlP]) ?_)
    | (at_builtin; refine wpList_append_own _ rfl _ _ 194 rfl w.heap.size 197 i0 _ 130 1040 Tryz.underlying194 hi0 hz0 hz1 hz2 (by show Tryz.zeroCells197.size = 130; exact zc197) (by decide) _ 0 [] rfl (World.ownsRow_nil _ _ _ _) ⟨w5.heap.size, 0, none⟩ 1 1 (stepC rt 0 (pgs rt)) rfl (stepC_len _ _ _ hlP) (arr_at _ _ _) (stepC_one _ _ _) (by unfold maxLen; omega) (by omega) ?c2 ?c3))
  case c2 =>
    have hs1 := hC1.size
    have hs3 := hCw3.size
    have hs5 := hCw5.size
    simp at hsw4 ⊢
    omega
  case c3 =>
    intro v' w6 hown hg6 _
    go_wp2
    go_ret
    have hs1 := hC1.size
    have hs3 := hCw3.size
    have hC5 : Chg [] w w5 := ((((hC1.trans hCw3).alloc _).on hCw4 (fun i hi => .inr (by simp at hi; omega)))).trans hCw5
    exact ⟨v', rfl, hown, (hC5.alloc _).grown hg6 (by intro k hk; cases hk)⟩


set_option maxRecDepth 100000 in
set_option maxHeartbeats 1000000 in
theorem descend_two (ba bm bw fr rt : Nat) (pgs : Nat → List Nat) (key : ByteArray) (g : PG) (w : World) (hA : ArS w ba bm bw fr rt pgs) (h0 : 1 ≤ rt) (h1 : rt ≤ 40) (hP : IsPage (pgs rt) g) (hl : g.lvl ≠ 0) (hm : ∃ x, g.l[0]? = some x ∧ cmpS x.1 key ≤ 0)
    (hQ : ∀ (i q : Nat) (x : Pr), g.l[i]? = some x → x.2 = numS q → q ≤ 511 → 1 ≤ q ∧ q ≤ 40 ∧ ∃ h, IsPage (pgs q) h ∧ h.lvl = 0) :
    Calls Tryz.prog 114 #[.pointer (some ⟨ba, 0, none⟩), .string key] w fun e w' => ∃ (i q : Nat) (x : Pr) (v : Value), e = .returned v ∧ g.l[i]? = some x ∧ x.2 = numS q ∧ q ≤ 511 ∧ DownAt g.l key i ∧ w'.ownsRow w.heap.size 197 130 v 2 (stepC rt i (pgs rt) ++ stepC q 0 (pgs q)) ∧ Chg [] w w' := by
  obtain ⟨i0, hi0, hz0, hz1, hz2⟩ := info_parts info197
  have hlP := hP.head.len
  have hszP : (nums (pgs rt)).size = 128 := by rw [nums_size]; exact hlP
  go_enter Tryz.func114, Tryz.ntmps114
  go_wp2_with (first
    | (go_at_call 109; refine (root_s ba bm bw fr rt pgs _ hA (by omega)).mono ?_; rintro e w1 ⟨rfl, hC1⟩))
  refine wp_loop_rounds 2 ?_
  rw [rounds_succ]
  go_wp2_with (first
    | (go_at_call 129; refine (read_s ba bm bw fr rt pgs rt _ (hA.ext hC1) (by omega) (by omega)).mono ?_; rw [Int.toNat_natCast]; rintro e w3 ⟨rfl, hCw3⟩)
    | (refine wpList_store_blk rfl 72 (.tmp 7) (.tmp 18) rfl w3.heap.size rfl (nums (pgs rt)) rfl 72 _ (Blk.new w3 72 _) (hszP ▸ (by kernel_rfl)) (by rw [hszP]; rfl) (nums_one _) ?_; intro w4 hCw4 hsw4 hB4)
    | (refine wpList_load_row rfl 72 (.tmp 7) rfl w3.heap.size rfl 72 (nums (pgs rt)) (0, 0) _ hB5 Tryz.underlying72 rfl (hszP ▸ (by kernel_rfl)) ?_)
    | (refine wpList_load_row rfl 72 (.tmp 7) rfl w3.heap.size rfl 72 (nums (pgs rt)) (0, 0) _ hB4 Tryz.underlying72 rfl (hszP ▸ (by kernel_rfl)) ?_)
    | (go_at_call 144; refine (down_inner (pgs rt) g key _ hP hl hm).mono ?_; rintro e w5 ⟨i, q, x, rfl, hx, hq1, hq2, hxn, hD, hCw5⟩; obtain ⟨hq0, hq40, h, hPq, hlq⟩ := hQ i q x hx hxn hq2; have hlPq := hPq.head.len; have hszPq : (nums (pgs q)).size = 128 := (by rw [nums_size]; exact hlPq); have hB5 := hB4.ext hCw5)
    | (refine wpList_build_step rfl _ _ _ rfl rt i (pgs rt) rfl rfl rfl hlP ?_)
    | (refine wpList_buildSlice_step rfl _ rfl (stepC rt i (pgs rt)).toArray rfl (by rw [List.size_toArray, stepC_len _ _ _ hlP]) ?_)
    | (at_builtin; refine wpList_append_own _ rfl _ _ 194 rfl w.heap.size 197 i0 _ 130 1040 Tryz.underlying194 hi0 hz0 hz1 hz2 (by show Tryz.zeroCells197.size = 130; exact zc197) (by decide) _ 0 [] rfl (World.ownsRow_nil _ _ _ _) ⟨w5.heap.size, 0, none⟩ 1 1 (stepC rt i (pgs rt)) rfl (stepC_len _ _ _ hlP) (arr_at _ _ _) (stepC_one _ _ _) (by unfold maxLen; omega) (by omega) ?c2 ?c3))
  case c2 =>
    have hs1 := hC1.size
    have hs3 := hCw3.size
    have hs5 := hCw5.size
    simp at hsw4 ⊢
    omega
  case c3 =>
    intro v' w6 hown hg6 _
    have hs1 := hC1.size
    have hs3 := hCw3.size
    have hC5 : Chg [] w w5 := ((((hC1.trans hCw3).alloc _).on hCw4 (fun i hi => .inr (by simp at hi; omega)))).trans hCw5
    have hC6 : Chg [] w w6 := (hC5.alloc _).grown hg6 (by intro k hk; cases hk)
    have hA6 := hA.ext hC6
    clear hB4 hB5 hCw3 hCw4 hCw5 hsw4 hC1
    go_wp2_with fail
    rw [rounds_succ]
    go_wp2_with (first
      | (go_at_call 129; refine (read_s ba bm bw fr rt pgs q _ hA6 (by omega) (by omega)).mono ?_; rw [Int.toNat_natCast]; rintro e w7 ⟨rfl, hCw7⟩)
      | (refine wpList_store_blk rfl 72 (.tmp 7) (.tmp 18) rfl w7.heap.size rfl (nums (pgs q)) rfl 72 _ (Blk.new w7 72 _) (hszPq ▸ (by kernel_rfl)) (by rw [hszPq]; rfl) (nums_one _) ?_; intro w8 hCw8 hsw8 hB8; have hown8 := own_chg (own_ext hown (hCw7.alloc _)) hCw8 (fun k hk => by have := (hown.lt k hk).2; have := hCw7.size; simp; omega))
      | (refine wpList_load_row rfl 72 (.tmp 7) rfl w7.heap.size rfl 72 (nums (pgs q)) (0, 0) _ hB9 Tryz.underlying72 rfl (hszPq ▸ (by kernel_rfl)) ?_)
      | (refine wpList_load_row rfl 72 (.tmp 7) rfl w7.heap.size rfl 72 (nums (pgs q)) (0, 0) _ hB8 Tryz.underlying72 rfl (hszPq ▸ (by kernel_rfl)) ?_)
      | (go_at_call 144; refine (down_leaf (pgs q) h key _ hPq hlq).mono ?_; rintro e w9 ⟨rfl, hCw9⟩; have hB9 := hB8.ext hCw9)
      | (refine wpList_build_step rfl _ _ _ rfl q 0 (pgs q) rfl rfl rfl hlPq ?_)
      | (refine wpList_buildSlice_step rfl _ rfl (stepC q 0 (pgs q)).toArray rfl (by rw [List.size_toArray, stepC_len _ _ _ hlPq]) ?_)
      | (at_builtin; refine wpList_append_own _ rfl _ _ 194 rfl w.heap.size 197 i0 _ 130 1040 Tryz.underlying194 hi0 hz0 hz1 hz2 (by show Tryz.zeroCells197.size = 130; exact zc197) (by decide) _ 1 (stepC rt i (pgs rt)) rfl ((own_ext hown8 hCw9).alloc _) ⟨w9.heap.size, 0, none⟩ 1 1 (stepC q 0 (pgs q)) rfl (stepC_len _ _ _ hlPq) (arr_at _ _ _) (stepC_one _ _ _) (by unfold maxLen; omega) (by omega) ?c2q ?c3q))
    case c2q =>
      have hs6 := hC6.size
      have hs7 := hCw7.size
      have hs9 := hCw9.size
      simp at hsw8 ⊢
      omega
    case c3q =>
      intro v2 w10 hown10 hg10 _
      go_wp2
      go_ret
      have hs6 := hC6.size
      have hs7 := hCw7.size
      have hC9 : Chg [] w w9 := ((((hC6.trans hCw7).alloc _).on hCw8 (fun i hi => .inr (by simp at hi; omega)))).trans hCw9
      exact ⟨i, q, x, v2, rfl, hx, hxn, hq2, hD, hown10, (hC9.alloc _).grown hg10 (fun k hk => .inr (hown.lt k hk).1)⟩

end Go.Proofs.YtpcaadipejnllaaGreatDoor

/- A pair put into the slice of a leaf. -/
set_option linter.unusedVariables false
set_option linter.unusedSimpArgs false
namespace Go.Proofs.YtpcaadipejnllaaGreatDoor
open Go.RowKit

theorem run_store93 (w : World) (g off : Nat) (x : Pr) (t : TypeId) (cur : Array Value) (hB : Blk w g t cur) (hk : off + 2 ≤ cur.size) :
    (Instr.storeAt 93 (.pointer (some ⟨g, off, none⟩)) (.agg #[.string x.1, .string x.2])).run Tryz.prog w = .ok () (w.setRow g (splice cur.toList off [.string x.1, .string x.2]).toArray) := by
  have hst := run_storeCells_at Tryz.prog g off t [.string x.1, .string x.2] 0 cur w hB (by simpa using hk) (by simp [Value.oneCell'])
  have e : cur.toList.take (off + 0) ++ [Value.string x.1, .string x.2] ++ cur.toList.drop (off + 0 + [Value.string x.1, .string x.2].length) = splice cur.toList off [.string x.1, .string x.2] := by
    simp [splice]
  rw [e] at hst
  obtain ⟨i0, hi, hz0, hz1, hz2⟩ := info_parts info93
  simp [Instr.storeAt, Instr.sureAddr, storeVar, sizeOf, typeInfo, hi, hz1, Value.cells, Sem.run_bind, hst]
theorem wpList_store_pair {ops : Array Oper} {rest : List Oper} {o : Oper} {a : Act} {w : World} {Q : Exit → Act → World → Prop} (hgd : o.guard = none) (x y : Operand) (ho : o.op = .store 93 x y)
    (g off : Nat) (hx : a.eval x = .pointer (some ⟨g, off, none⟩)) (z : Pr) (hy : a.eval y = .agg #[.string z.1, .string z.2]) (t : TypeId) (cur : Array Value) (hg : Blk w g t cur) (hk : off + 2 ≤ cur.size)
    (h : ∀ w', Chg [g] w w' → w'.heap.size = w.heap.size → Blk w' g t (splice cur.toList off [.string z.1, .string z.2]).toArray → wpList Tryz.prog ops Q rest (a.put o.dst undef) w') : wpList Tryz.prog ops Q (o :: rest) a w := by
  refine wpList_plain hgd fun K hK => ?_
  have hr := run_store93 w g off z t cur hg hk
  obtain ⟨r1, r2, r3⟩ := blk_setRow hg (splice cur.toList off [.string z.1, .string z.2]).toArray
  unfold Oper.wp execOp
  simp only [ho, hx, hy, Sem.run_bind, hr, Result.andThen_ok]
  exact hK _ _ (h _ r2 r3 r1)

theorem prs_set (l : List Pr) (i : Nat) (x : Pr) (hi : i < l.length) : splice (prs l) (i * 2) [.string x.1, .string x.2] = prs (l.set i x) := by
  induction l generalizing i with
  | nil => simp at hi
  | cons y l ih =>
    have e : ∀ (z : Pr) (m : List Pr), prs (z :: m) = .string z.1 :: .string z.2 :: prs m := fun z m => by simp [prs]
    cases i with
    | zero => rw [e, List.set_cons_zero, e]; simp [splice]
    | succ i =>
      have := ih i (by simpa using hi)
      rw [e, List.set_cons_succ, e, ← this]
      unfold splice
      rw [show (i + 1) * 2 = i * 2 + 1 + 1 by omega, List.take_succ_cons, List.take_succ_cons, show i * 2 + 1 + 1 + [Value.string x.1, .string x.2].length = i * 2 + [Value.string x.1, .string x.2].length + 1 + 1 by simp, List.drop_succ_cons, List.drop_succ_cons]
      rfl
theorem splice_take {α : Type} (L : List α) (off n : Nat) (cs : List α) (h : off + cs.length ≤ n) (hn : n ≤ L.length) : (splice L off cs).take n = splice (L.take n) off cs := by
  unfold splice
  have a : (L.take off).length = off := by rw [List.length_take]; omega
  rw [List.take_append, a, List.take_of_length_le (l := L.take off) (by omega), List.take_append, List.take_of_length_le (l := cs) (by omega), List.take_take, Nat.min_eq_left (by omega : off ≤ n), List.drop_take, Nat.sub_sub]

set_option maxRecDepth 100000 in
set_option maxHeartbeats 1000000 in
theorem set1_w (base : Nat) (l : List Pr) (x : Pr) (v : Value) (kb vb : Nat) (w : World) (hown : w.ownsRow base 93 2 v l.length (prs l)) (hbase : base ≤ w.heap.size) (hs : Srt l) (hlen : l.length ≤ 900)
    (hk : w.cell? ⟨kb, 0, none⟩ = some (.string x.1)) (hv : w.cell? ⟨vb, 0, none⟩ = some (.string x.2)) :
    Calls Tryz.prog 81 #[v, .pointer (some ⟨kb, 0, none⟩), .pointer (some ⟨vb, 0, none⟩)] w (Inserted base (ins x l) v w) := by
  have hkl : kb < w.heap.size := block_lt_of_cell hk
  have hvl : vb < w.heap.size := block_lt_of_cell hv
  have hil : ∀ i is, PlaceAt l x.1 i is → insAt l x i is = ins x l := fun i is h => place_ins h
  obtain ⟨hll, h2⟩ := id hown
  rcases h2 with ⟨rfl, h0⟩ | ⟨g, c, cur, rfl, hbg, hg', hn, hm, hz, ht⟩
  · have hl0 : l = [] := List.eq_nil_of_length_eq_zero h0
    subst hl0
    go_enter Tryz.func81, Tryz.ntmps81
    go_wp2_with (first
      | (go_at_call 82; go_loud (refine (bsearch83_w [] x.1 _ _ (Sl.own ((hown.alloc _))) hs (by omega)).mono ?_; rintro e w1 ⟨i, is, rfl, hPl, hC1⟩; have his : is = false := (by cases is with | false => rfl | true => (obtain ⟨y, hy, _⟩ := hPl.met.1 rfl; simp at hy)); have hi0 : i = 0 := (by have := hPl.le; simpa using this); subst his hi0; have hX1 := (Blk.new w 93 #[.string x.1, .string x.2]).ext hC1; have hown1 := own_ext (hown.alloc (.cells #[.string x.1, .string x.2] 93)) hC1))
      | (refine wpList_load_row rfl 93 (.tmp 5) rfl w.heap.size rfl 93 #[.string x.1, .string x.2] (0, 0) _ hX1 Tryz.underlying93 rfl (by kernel_rfl) ?_)
      | (go_at_call 84; go_loud (refine (insert_v base [] x _ 0 _ _ rfl (hown1.alloc _) (by have := hC1.size; simp at this ⊢; omega) (by simp) (by simp) w1.heap.size (Blk.new w1 93 _) (fun k hk => by cases hk)).mono ?_; rintro e w2 ⟨v', rfl, hown2, hC2⟩)))
    go_ret
    refine ⟨v', rfl, ?_, (((((Chg.refl [] w).alloc _).trans hC1).alloc _)).trans hC2⟩
    have := hil 0 false hPl
    rw [← this]
    exact hown2
  · have hg : Blk w g 93 cur := hg'
    have hc3 : c ≤ 9223372036854775807 := by unfold maxLen at hm; omega
    go_enter Tryz.func81, Tryz.ntmps81
    go_wp2_with (first
      | (go_at_call 82; go_loud (refine (bsearch83_w l x.1 _ _ (Sl.own ((hown.alloc _))) hs (by omega)).mono ?_; rintro e w1 ⟨i, is, rfl, hPl, hC1⟩; have hX1 := (Blk.new w 93 #[.string x.1, .string x.2]).ext hC1; have hown1 := own_ext (hown.alloc (.cells #[.string x.1, .string x.2] 93)) hC1; have hil2 := Lib.hid (hil i is hPl); have hile := hPl.le; have hilt : is = true → i < l.length := (fun h => by obtain ⟨y, hy, _⟩ := hPl.met.1 h; exact (List.getElem?_eq_some_iff.1 hy).1); have hg1 : Blk w1 g 93 cur := (hg.alloc _).ext hC1))
      | (refine wpList_load_row rfl 93 (.tmp 5) rfl w.heap.size rfl 93 #[.string x.1, .string x.2] (0, 0) _ hX1 Tryz.underlying93 rfl (by kernel_rfl) ?_)
      | (go_at_call 84; go_loud (refine (insert_v base l x _ i _ _ rfl (hown1.alloc _) (by have := hC1.size; simp at this ⊢; omega) hile (by omega) w1.heap.size (Blk.new w1 93 _) (fun k hk => by (have := (hown1.lt k hk).2; omega))).mono ?_; rintro e w2 ⟨v', rfl, hown2, hC2⟩))
      | (refine wpList_store_pair rfl (.tmp 21) (.tmp 20) rfl g (i * 2) rfl x rfl 93 cur hg1 (by have := hilt (by assumption); omega) ?_; intro w2 hC2 hs2 hB2))
    · go_ret
      have hlt := hilt (by assumption)
      have hy : is = true := by assumption
      subst hy
      have e := hil2.out
      have hC : Chg [g] w w2 := ((((Chg.refl [g] w).alloc _).nil hC1)).trans hC2
      refine ⟨_, rfl, ?_, hC⟩
      have hl2 : (l.set i x).length = l.length := List.length_set
      have e : l.set i x = ins x l := e
      rw [← e, hl2]
      have hcl : cur.toList.length = c * 2 := by rw [Array.length_toList, hz]
      refine ⟨by rw [prs_len, hl2], .inr ⟨g, c, _, rfl, hbg, hB2, hn, hm, ?_, ?_⟩⟩
      · rw [List.size_toArray, length_splice _ _ _ (by simp only [List.length_cons, List.length_nil]; omega), hcl]
      · rw [List.toList_toArray, splice_take _ _ _ _ (by simp only [List.length_cons, List.length_nil]; omega) (by omega), ht]
        exact prs_set l i x hlt
    · go_ret
      have hy : is = false := by first | assumption | simpa using ‹¬ is = true›
      subst hy
      have e := hil2.out
      refine ⟨v', rfl, ?_, ((((Chg.refl _ w).alloc _).nil hC1).alloc _).trans hC2⟩
      have e : l.take i ++ x :: l.drop i = ins x l := e
      rw [← e]
      exact hown2

end Go.Proofs.YtpcaadipejnllaaGreatDoor

/- The plain law of a tree: its root. -/
set_option linter.unusedVariables false
set_option linter.unusedSimpArgs false
namespace Go.Proofs.YtpcaadipejnllaaGreatDoor
open Go.RowKit

/-- The root's page over leaves. -/
def rootG (ls : List Lf) : PG := ⟨1, ⟨#[]⟩, ⟨#[]⟩, 0, seps ls⟩

/-- A tree: a leaf alone, or leaves below a root. -/
inductive TreeP (fr rt : Nat) (pgs : Nat → List Nat) (ls : List Lf) (fl : List Nat) : Prop
  | one (x : Lf) (e : ls = [x]) (r : rt = x.p) (m : Mid fr pgs ls [] fl) : TreeP fr rt pgs ls fl
  | many (n : 2 ≤ ls.length) (m : Mid fr pgs ls [rt] fl) (p : IsPage (pgs rt) (rootG ls)) (l : ∀ x ∈ ls, 36 ≤ load x.l) : TreeP fr rt pgs ls fl

section
variable {fr rt : Nat} {pgs : Nat → List Nat} {ls : List Lf} {fl : List Nat} {pg : List Nat}
theorem Mid.exn (H : Mid fr pgs ls [rt] fl) : (∀ x ∈ ls, x.p ≠ rt) ∧ (∀ p ∈ fl, p ≠ rt) ∧ 1 ≤ rt ∧ rt ≤ 40 := by
  have hnd := List.nodup_iff_count.1 H.nd rt
  simp only [List.count_append, List.count_singleton_self] at hnd
  refine ⟨fun x hx e => ?_, fun p hp e => ?_, (H.mem rt).1 (by simp)⟩
  · have := List.count_pos_iff.2 (show rt ∈ pgsOf ls from List.mem_map.2 ⟨x, hx, e⟩)
    omega
  · have := List.count_pos_iff.2 (show rt ∈ fl from e ▸ hp)
    omega
/-- Another page for the root: nothing else turns. -/
theorem Mid.exwrite (H : Mid fr pgs ls [rt] fl) : Mid fr (upd pgs rt pg) ls [rt] fl := by
  obtain ⟨h1, h2, _⟩ := H.exn
  exact ⟨H.lvs.far (fun x hx => upd_far (h1 x hx)), H.free.far (fun p hp => upd_far (h2 p hp)), H.perm, H.low0, H.lows, H.srt⟩
/-- The root's page is given back. -/
theorem Mid.exdrop (H : Mid fr pgs ls [rt] fl) : Mid rt (upd pgs rt (freePg fr)) ls [] (rt :: fl) := by
  obtain ⟨h1, h2, h3, _⟩ := H.exn
  refine ⟨H.lvs.far (fun x hx => upd_far (h1 x hx)), H.free.give (fun h => h2 rt h rfl) h3, ?_, H.low0, H.lows, H.srt⟩
  refine List.Perm.trans ?_ H.perm
  rw [List.perm_iff_count]
  intro p
  simp only [List.count_append, List.count_cons, List.count_nil]
  omega
/-- A free page for a root. -/
theorem Mid.extake {fl : List Nat} (H : Mid fr pgs ls [] (fr :: fl)) : Mid (wd (pgs fr) 10).toNat (upd pgs fr pg) ls [fr] fl := by
  obtain ⟨_, e, hu, hf⟩ := H.free.some (by simp)
  injection e with _ e
  subst e
  have hnd := List.nodup_iff_count.1 H.nd fr
  simp only [List.count_append, List.count_cons_self] at hnd
  have h1 : ∀ x ∈ ls, x.p ≠ fr := fun x hx e => by
    have := List.count_pos_iff.2 (show fr ∈ pgsOf ls from List.mem_map.2 ⟨x, hx, e⟩)
    omega
  have h2 : ∀ p ∈ fl, p ≠ fr := fun p hp e => by
    have := List.count_pos_iff.2 (show fr ∈ fl from e ▸ hp)
    omega
  refine ⟨H.lvs.far (fun x hx => upd_far (h1 x hx)), hf.far (fun p hp => upd_far (h2 p hp)), ?_, H.low0, H.lows, H.srt⟩
  refine List.Perm.trans ?_ H.perm
  rw [List.perm_iff_count]
  intro p
  simp only [List.count_append, List.count_cons, List.count_nil]
  omega
end

/-- How many leaves there are: by their loads. -/
theorem load_flat (ls : List Lf) (h : ∀ x ∈ ls, 36 ≤ load x.l) : 36 * ls.length ≤ load (flat ls) := by
  induction ls with
  | nil => simp [flat, load]
  | cons x ls ih =>
    rw [flat_cons, load_app, List.length_cons]
    have := h x (by simp)
    have := ih (fun y hy => h y (by simp [hy]))
    omega
theorem TreeP.few {fr rt : Nat} {pgs : Nat → List Nat} {ls : List Lf} {fl : List Nat} (h : TreeP fr rt pgs ls fl) (hl : load (flat ls) ≤ 300) : ls.length ≤ 8 := by
  cases h with
  | one x e => simp [e]
  | many n m p l => have := load_flat ls l; omega
theorem seps_load (ls : List Lf) (h : ∀ x ∈ ls, x.low.size ≤ 24) : load (seps ls) ≤ 5 * ls.length := by
  induction ls with
  | nil => simp [seps, load]
  | cons x ls ih =>
    have e : load (seps (x :: ls)) = costP (x.low, numS x.p) + load (seps ls) := by simp [seps, load]
    have h1 := ih (fun y hy => h y (by simp [hy]))
    have h2 : costP (x.low, numS x.p) ≤ 5 := by
      have : nw x.low.size ≤ 3 := nw_le (by have := h x (by simp); omega)
      have e8 : nw (numS x.p).size = 1 := by rw [numS_size]; rfl
      show 1 + (nw x.low.size + nw (numS x.p).size) ≤ 5
      omega
    rw [e, List.length_cons]; omega

/-- The root's list is as it should be. -/
theorem Mid.rootOk {fr : Nat} {pgs : Nat → List Nat} {ls : List Lf} {ex fl : List Nat} (H : Mid fr pgs ls ex fl) (hn : ls.length ≤ 20) : (rootG ls).Ok ∧ OkS (seps ls) := by
  have h24 : ∀ x ∈ ls, x.low.size ≤ 24 := fun x hx => by
    obtain ⟨A, B, rfl⟩ := List.append_of_mem hx
    exact (Mid.fence (x := x) H).2.low24
  have hrng : ∀ x ∈ ls, 1 ≤ x.p ∧ x.p ≤ 40 := fun x hx => H.rng hx
  have hokp : ∀ x ∈ seps ls, OkP x := fun y hy => by
    obtain ⟨x, hx, rfl⟩ := List.mem_map.1 hy
    exact ⟨h24 x hx, by show (numS x.p).size ≤ 40; rw [numS_size]; omega, by show 0 < (numS x.p).size; rw [numS_size]; omega⟩
  have hld := seps_load ls h24
  have e0 : (⟨#[]⟩ : ByteArray).size = 0 := rfl
  obtain ⟨x0, r, hls, hlow0⟩ := H.low0
  have hlows := H.lows
  have hget : ∀ (k : Nat) (y : Pr), (seps ls)[k]? = some y → ∃ x : Lf, ls[k]? = some x ∧ y = (x.low, numS x.p) := fun k y hy => by
    simp only [seps, List.getElem?_map, Option.map_eq_some_iff] at hy
    obtain ⟨x, hx, rfl⟩ := hy
    exact ⟨x, hx, rfl⟩
  have htail : ∀ (k : Nat) (x : Lf), ls[k + 1]? = some x → 0 < x.low.size := fun k x hx => hlows x (by
    rw [hls] at hx ⊢
    simp at hx
    exact List.mem_of_getElem? hx)
  refine ⟨⟨by show (1 : Nat) ≤ 5; omega, by show (⟨#[]⟩ : ByteArray).size ≤ 24; omega, by show (⟨#[]⟩ : ByteArray).size ≤ 24; omega, .inl rfl, by show (0 : Nat) ≤ 511; omega, ⟨hokp, (fun e => by cases e), fun _ k y hy => ?_, fun k x y hx hy => ?_, by show load (seps ls) ≤ 108; omega⟩⟩, hokp⟩
  · obtain ⟨x, hx, rfl⟩ := hget k y hy
    have hr := hrng x (List.mem_of_getElem? hx)
    refine ⟨?_, x.p, hr.1, by omega, rfl⟩
    cases k with
    | zero =>
      left
      rw [hls] at hx
      simp at hx
      subst hx
      exact ⟨rfl, by show x0.low.size = 0; rw [hlow0]; rfl⟩
    | succ k => right; exact htail k x hx
  · obtain ⟨a, ha, rfl⟩ := hget k x hx
    obtain ⟨b, hb, rfl⟩ := hget (k + 1) y hy
    obtain ⟨A, B, hAB, hAl⟩ : ∃ A B, ls = A ++ ([a, b] ++ B) ∧ A.length = k := by
      have h1 := (List.getElem?_eq_some_iff.1 hb).1
      refine ⟨ls.take k, ls.drop (k + 2), ?_, by rw [List.length_take]; omega⟩
      have e1 : ls.drop k = a :: ls.drop (k + 1) := by
        rw [List.drop_eq_getElem_cons (by omega)]
        congr 1
        exact (List.getElem?_eq_some_iff.1 ha).2
      have e2 : ls.drop (k + 1) = b :: ls.drop (k + 2) := by
        rw [List.drop_eq_getElem_cons (by omega)]
        congr 1
        exact (List.getElem?_eq_some_iff.1 hb).2
      conv => lhs; rw [← List.take_append_drop k ls]
      rw [e1, e2]
      rfl
    subst hAB
    exact H.two.2.2.2.1

end Go.Proofs.YtpcaadipejnllaaGreatDoor

/- The plain law of a tree: parts of a divided list; trees in memory. -/
set_option linter.unusedVariables false
set_option linter.unusedSimpArgs false
namespace Go.Proofs.YtpcaadipejnllaaGreatDoor
open Go.RowKit

theorem half_parts {low hi : ByteArray} {n fr : Nat} {l : List Pr} (hN : NewL low hi l) (hF : FenceOk low hi n) (h1 : 109 ≤ load l) (h2 : load l ≤ 200) (hfr : fr ≤ 511) (k : Nat) (y : Pr) (hH : HalfAt l k) (hy : l[k]? = some y) :
    (rightOf ⟨0, low, hi, n, l⟩ k y).Ok ∧ (leftOf ⟨0, low, hi, n, l⟩ k y fr).Ok ∧ 0 < y.1.size ∧ y.1.size ≤ 24 ∧ 36 ≤ load (l.take k) ∧ 36 ≤ load (l.drop k) := by
  obtain ⟨p1, p2, p3, p4⟩ := half_loads hN.k.ok hH h1 h2
  obtain ⟨c1, c2, c3, c4, c5⟩ := hN.cut hH.pos hy
  obtain ⟨f1, f2⟩ := hN.fence_cut hH.pos hy hF hfr
  exact ⟨f2.pg (okL0 c2.k c2.s p4), f1.pg (okL0 c1.k c1.s p2), c4, c5, p1, p3⟩

theorem load_len (l : List Pr) : l.length ≤ load l := by have := load_eq l; omega

/-- A tree in memory, with its pairs. -/
def TreeS (w : World) (tb : Nat) (c : List Pr) : Prop :=
  ∃ (ba bm bw fr rt : Nat) (pgs : Nat → List Nat) (ls : List Lf) (fl : List Nat), Blk w tb 78 #[.pointer (some ⟨ba, 0, none⟩), .int .i64 c.length] ∧ ArS w ba bm bw fr rt pgs ∧ TreeP fr rt pgs ls fl ∧ flat ls = c

theorem TreeP.srt {fr rt : Nat} {pgs : Nat → List Nat} {ls : List Lf} {fl : List Nat} (h : TreeP fr rt pgs ls fl) : Srt (flat ls) := by
  cases h with
  | one x e r m => exact m.srt
  | many n m p l => exact m.srt
theorem ArS.ne78 {w : World} {tb ba bm bw fr rt : Nat} {pgs : Nat → List Nat} {cs : Array Value} (h : ArS w ba bm bw fr rt pgs) (hT : Blk w tb 78 cs) : tb ≠ ba ∧ tb ≠ bm ∧ tb ≠ bw := by
  obtain ⟨ws, hA, _⟩ := h
  obtain ⟨cap, cur, h1, h2, _⟩ := hA.m.hd
  exact ⟨hT.ne_ hA.a (by decide), hT.ne_ h1 (by decide), hT.ne_ h2 (by decide)⟩
theorem TreeS.ext {w w' : World} {tb : Nat} {c : List Pr} (h : TreeS w tb c) (hC : Chg [] w w') : TreeS w' tb c := by
  obtain ⟨ba, bm, bw, fr, rt, pgs, ls, fl, h1, h2, h3, h4⟩ := h
  exact ⟨ba, bm, bw, fr, rt, pgs, ls, fl, h1.ext hC, h2.ext hC, h3, h4⟩

/-- A single leaf with a pair more. -/
theorem Mid.new1 {fr : Nat} {pgs : Nat → List Nat} {x : Lf} {fl : List Nat} (H : Mid fr pgs [x] [] fl) {kv : Pr} (h1 : OkP kv) (h2 : 0 < kv.1.size) : NewL x.low ⟨#[]⟩ (ins kv x.l) ∧ FenceOk x.low ⟨#[]⟩ 0 ∧ load (ins kv x.l) ≤ 117 := by
  have hLf := Mid.fence (A := []) (x := x) (B := []) H
  obtain ⟨o1, o2, o3⟩ := H.allok (x := x) (by simp)
  obtain ⟨x0, r, e, hl⟩ := H.low0
  injection e with e _
  subst e
  have hi := ins_load kv x.l
  have hc := costP_le h1
  refine ⟨⟨o1.ins h1 h2, o2.ins, fun y hy => ?_⟩, hLf.2, by omega⟩
  rw [hl]
  exact Ins.of (cmp_empty_le _) (.inl rfl)

end Go.Proofs.YtpcaadipejnllaaGreatDoor
