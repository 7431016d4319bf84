/- A part that is divided. -/
import Derived.Test.YtpcaadipejnllaaGreatDoorPart06
import Derived.Deep.DeepCutAuto
import Derived.Deep.MidRow

set_option linter.unusedVariables false
set_option linter.unusedSimpArgs false
namespace Go.Proofs.YtpcaadipejnllaaGreatDoor
open Go.RowKit

theorem WA.chg {S : List Nat} {w w' : World} {wb ba bm bw fr rt : Nat} {pgs : Nat → List Nat} (h : WA w wb ba bm bw fr rt pgs) (hC : Chg S w w') (hS : ∀ i ∈ S, i ≠ wb ∧ i ≠ ba ∧ i ≠ bm ∧ i ≠ bw) : WA w' wb ba bm bw fr rt pgs :=
  ⟨Blk.chg h.wk hC (fun hi => (hS _ hi).1 rfl), h.ar.chg hC (fun hi => (hS _ hi).2.1 rfl) (fun hi => (hS _ hi).2.2.1 rfl) (fun hi => (hS _ hi).2.2.2 rfl), h.na, h.nm, h.nw⟩

/-- The two halves of a page that is divided. -/
def rightOf (g : PG) (k : Nat) (y : Pr) : PG := { g with low := y.1, l := g.l.drop k }
def leftOf (g : PG) (k : Nat) (y : Pr) (q : Nat) : PG := { g with high := y.1, next := q, l := g.l.take k }

/-- No part. -/
def zp : Array Value := #[.int .i64 0, .int .i64 0, .string ⟨#[]⟩, .string ⟨#[]⟩, .int .i64 0, .slice none 0 0]

/-- The cells of a part. -/
theorem partA_cells {w : World} {b n : Nat} {g : PG} {v : Value} (h : Blk w b 199 (partA n g v)) : w.cell? ⟨b, 0, none⟩ = some (.int .i64 n) ∧ w.cell? ⟨b, 1, none⟩ = some (.int .i64 g.lvl) ∧ w.cell? ⟨b, 2, none⟩ = some (.string g.low) ∧ w.cell? ⟨b, 3, none⟩ = some (.string g.high) ∧ w.cell? ⟨b, 4, none⟩ = some (.int .i64 g.next) ∧ w.cell? ⟨b, 5, none⟩ = some v :=
  ⟨by rw [h.cell]; rfl, by rw [h.cell]; rfl, by rw [h.cell]; rfl, by rw [h.cell]; rfl, by rw [h.cell]; rfl, by rw [h.cell]; rfl⟩

/-- What a division leaves: two pages, the right one new. -/
def Divided (w : World) (wb ba bm bw fr' rt : Nat) (pgs : Nat → List Nat) (n : Nat) (g : PG) (fr : Nat) (e : Ending) (w' : World) : Prop :=
  ∃ (k : Nat) (y : Pr) (pgR pgL : List Nat) (vL vR : Value), e = .returned (.tuple #[.agg (partA n (leftOf g k y fr) vL), .agg (partA fr (rightOf g k y) vR)]) ∧ (vL.oneCell' = true ∧ vR.oneCell' = true) ∧ HalfAt g.l k ∧ g.l[k]? = some y ∧ IsPage pgR (rightOf g k y) ∧ IsPage pgL (leftOf g k y fr) ∧
    WA w' wb ba bm bw fr' rt (upd (upd pgs fr pgR) n pgL) ∧ Chg [wb, bw] w w'

set_option maxRecDepth 100000 in
set_option maxHeartbeats 6000000 in
theorem divide_w (wb ba bm bw fr rt : Nat) (pgs : Nat → List Nat) (n : Nat) (g : PG) (v : Value) (w : World) (hW : WA w wb ba bm bw fr rt pgs) (hS : Sl w 2 v g.l.length (prs g.l)) (hvb : ∀ k, v.ownBlock = some k → k < w.heap.size)
    (hO : OkS g.l) (hlen : g.l.length ≤ 1000) (h2 : 2 ≤ g.l.length)
    (hR : ∀ k y, HalfAt g.l k → g.l[k]? = some y → (rightOf g k y).Ok) (hL : ∀ k y, HalfAt g.l k → g.l[k]? = some y → (leftOf g k y fr).Ok) (f0 : 1 ≤ fr) (f1 : fr ≤ 40) (h0 : 1 ≤ n) (h1 : n ≤ 40) (hu : usedB pgs n = true) (hr : rt ≤ 40) (hnf : n ≠ fr) (hvn : ∀ k, v.ownBlock = some k → k ≠ wb ∧ k ≠ bw) :
    Calls Tryz.prog 149 #[.pointer (some ⟨wb, 0, none⟩), .agg (partA n g v)] w (Divided w wb ba bm bw (wd (pgs fr) 10).toNat rt pgs n g fr) := by
  have hlt := hW.ar.lt
  have hwl := Blk.lt hW.wk
  have hS0 := hS
  obtain ⟨A, c, rfl, hc1, hc2⟩ := hS.form
  obtain ⟨s, o, rfl, hs, hx⟩ := hS.at_ (by omega)
  have Hx := Lib.hid hx
  clear hx
  have hB0 : Blk (w.alloc (.cells (partA n g (.slice (some ⟨s, o, none⟩) g.l.length c)) 199)) w.heap.size 199 _ := Blk.new w 199 _
  have x5 : ∀ a b, (((w.alloc (.cells (partA n g (.slice (some ⟨s, o, none⟩) g.l.length c)) 199)).alloc a).alloc b).cell? ⟨w.heap.size, 5, none⟩ = some (.slice (some ⟨s, o, none⟩) g.l.length c) := fun a b => (partA_cells ((hB0.alloc a).alloc b)).2.2.2.2.2
  go_enter Tryz.func149, Tryz.ntmps149
  go_wp2_with (first
    | (go_at_call 154; refine (half_w g.l _ _ (((hS0.ext ((Chg.refl _ _).alloc _)).ext ((Chg.refl _ _).alloc _)).ext ((Chg.refl _ _).alloc _)) hO hlen h2).mono ?_; rintro e w1 ⟨at_, rfl, hH, hC1⟩; have hP1 := ((hB0.alloc _).alloc _).ext hC1; have hU1 : Blk w1 (w.heap.size + 1) 199 zp := ((Blk.newEq (by simp)).alloc _).ext hC1; have hV1 : Blk w1 (w.heap.size + 1 + 1) 199 zp := (Blk.newEq (by simp)).ext hC1; obtain ⟨y, hy⟩ : ∃ y, g.l[at_]? = some y := ⟨_, List.getElem?_eq_getElem hH.lt⟩; clear x5)
    | (refine wpList_load_row rfl 199 (.tmp 3) rfl w.heap.size rfl 199 (partA n g (.slice (some ⟨s, o, none⟩) g.l.length c)) (0, 0) _ hP1 Tryz.underlying199 rfl (by kernel_rfl) ?_)
    | (refine wpList_store_blk rfl 199 (.tmp 7) (.tmp 11) rfl w1.heap.size rfl (partA n g (.slice (some ⟨s, o, none⟩) g.l.length c)) rfl 199 _ (Blk.new w1 199 _) (by kernel_rfl) rfl (by simp [partA, Value.oneCell']) ?_; intro w2 hC2 hs2 hB2; have hs21 : w2.heap.size = w1.heap.size + 1 := (by rw [hs2]; simp); have hs1 := hC1.size; have hP2 := (hP1.alloc _).chg hC2 (by have := hP1.lt; simp; omega); have hU2 := (hU1.alloc _).chg hC2 (by have := hU1.lt; simp; omega); have hV2 := (hV1.alloc _).chg hC2 (by have := hV1.lt; simp; omega)))
  have hvl := hV1.lt
  have hltp := hP2.lt
  have hpl1 := hP1.lt
  have hne : w.heap.size ≠ w1.heap.size := by have := hP1.lt; omega
  obtain ⟨x0, x1, x2, x3, x4, x5⟩ := partA_cells hP2
  obtain ⟨y0, y1, y2, y3, y4, y5⟩ := partA_cells hB2
  have f2 := hB2.frozen 2
  have f5 := hB2.frozen 5
  obtain ⟨g1, g2⟩ := prs_get g.l at_ y hy
  have hat := hH.lt
  have hRk := hR at_ y hH hy
  have hCC2 : Chg [] w w2 := ((((((Chg.refl _ _).alloc _).alloc _).alloc _).trans hC1).alloc _).on hC2 (fun i hi => .inr (by simp at hi; omega))
  have hSw := hS0.ext hCC2
  have hSr := Sl.drop hSw hat
  have hW2 : WA w2 wb ba bm bw fr rt pgs := ⟨Blk.ext hW.wk hCC2, hW.ar.ext hCC2, hW.na, hW.nm, hW.nw⟩
  have hsl : s < w.heap.size := hvb s rfl
  obtain ⟨hsw, hsb⟩ := hvn s rfl
  have dk : w2.cell? ⟨s, o + at_ * 2, none⟩ = some (.string y.1) := by rw [hCC2.cell hsl (by simp), Hx.out _ (by omega), g1]
  have hne7 : w1.heap.size ≠ w.heap.size := by omega
  try simp only [Act.put, List.setIfInBounds_toArray, List.set_cons_zero, List.set_cons_succ]
  go_cut [] (fun wx => Blk wx w.heap.size 199 (partA n g (.slice (some ⟨s, o, none⟩) g.l.length c)) ∧ Blk wx w1.heap.size 199 (partA n (rightOf g at_ y) (.slice (some ⟨s, o + at_ * 2, none⟩) (g.l.length - at_) (c - at_))) ∧ Chg [w1.heap.size] w2 wx)
  case first =>
    go_region_with (fail)
    all_goals
      go_wp2_with fail
      go_meet
      exact ⟨((hP2.far (by simp; omega) _).far (by simp; omega) _).drew, (Blk.setEq (Blk.setEq hB2 rfl) rfl).drew, (((Chg.refl [w1.heap.size] w2).set _ (by simp) _).set _ (by simp) _).drew⟩
  case rest =>
    obtain ⟨hP3, hB3, hC3⟩ := hcut
    have hs3 := hC3.size
    have hW3 := hW2.chg hC3 (fun i hi => by simp at hi; omega)
    have hSr3 := hSr.chg hC3 (fun k hk => by injection hk with hk; rw [← hk]; simp; omega)
    go_wp2_with (first
      | (refine wpList_load_row rfl 199 (.tmp 7) rfl w1.heap.size rfl 199 (partA n (rightOf g at_ y) (.slice (some ⟨s, o + at_ * 2, none⟩) (g.l.length - at_) (c - at_))) (0, 0) _ hB3 Tryz.underlying199 rfl (by kernel_rfl) ?_)
      | (go_at_call 177; go_loud (refine (talloc_w wb ba bm bw fr rt pgs n (rightOf g at_ y) (.slice (some ⟨s, o + at_ * 2, none⟩) (g.l.length - at_) (c - at_)) _ hW3 hSr3 (fun k hk => by injection hk with hk; rw [← hk]; show s < _; omega) hRk f0 f1).mono ?_; rintro e w4 ⟨pg, rfl, hPg, hW4, hC4⟩; have hP4 := hP3.chg hC4 (by simp; omega); have hQ4 := hB3.chg hC4 (by simp; omega)))
      | (refine wpList_store_blk rfl 199 (.tmp 7) (.tmp 26) rfl w1.heap.size rfl (partA fr (rightOf g at_ y) (.slice (some ⟨s, o + at_ * 2, none⟩) (g.l.length - at_) (c - at_))) rfl 199 _ hQ4 (by kernel_rfl) (by simp [partA]) (by simp [partA, Value.oneCell']) ?_; intro w5 hC5 hs5 hB5; have hP5 := hP4.chg hC5 (by simp; omega)))
    have hCC5 : Chg [wb, bw, w1.heap.size] w2 w5 := ((hC3.mono (by simp)).trans (hC4.mono (by simp))).trans (hC5.mono (by simp))
    have hs5' := hCC5.size
    have hU5 := hU2.chg hCC5 (by simp; omega)
    have hV5 := hV2.chg hCC5 (by simp; omega)
    have hLk := hL at_ y hH hy
    have hWA5 := hW4.chg hC5 (fun i hi => by simp at hi; omega)
    clear x0 x1 x2 x3 x4 x5 y0 y1 y2 y3 y4 y5 f2 f5
    obtain ⟨x0, x1, x2, x3, x4, x5⟩ := partA_cells hP5
    obtain ⟨y0, y1, y2, y3, y4, y5⟩ := partA_cells hB5
    have f3 := hP5.frozen 3
    have f4 := hP5.frozen 4
    have f5 := hP5.frozen 5
    have hlow : (rightOf g at_ y).low = y.1 := rfl
    rw [hlow] at y2
    try simp only [Act.put, List.setIfInBounds_toArray, List.set_cons_zero, List.set_cons_succ]
    go_cut [] (fun wx => Blk wx w.heap.size 199 (partA n (leftOf g at_ y fr) (.slice (some ⟨s, o, none⟩) at_ c)) ∧ Chg [w.heap.size] w5 wx)
    case first =>
      go_region_with (fail)
      all_goals
        go_wp2_with fail
        go_meet
        exact ⟨(Blk.setEq (Blk.setEq (Blk.setEq hP5 rfl) rfl) rfl).drew, ((((Chg.refl [w.heap.size] w5).set _ (by simp) _).set _ (by simp) _).set _ (by simp) _).drew⟩
    case rest =>
      obtain ⟨hP6, hC6⟩ := hcut
      obtain ⟨w6, hw6⟩ : ∃ w6, w6 = wc := ⟨_, rfl⟩
      rw [← hw6] at hP6 hC6 ⊢
      clear hw6
      have hs6 := hC6.size
      have hvl5 := hV5.lt
      have hB6 := hB5.chg hC6 (by simp; omega)
      have hU6 := hU5.chg hC6 (by simp; try omega)
      have hV6 := hV5.chg hC6 (by simp; try omega)
      have hlt5 := hWA5.ar.lt
      have hwl5 := Blk.lt hWA5.wk
      have hWA6 := hWA5.chg hC6 (fun i hi => by simp at hi; omega)
      have hCC6 : Chg [wb, bw, w1.heap.size, w.heap.size] w2 w6 := (hCC5.mono (by simp)).trans (hC6.mono (by simp))
      have hSl6 := (Sl.take hSw (Nat.le_of_lt hat)).chg hCC6 (fun k hk => by injection hk with hk; rw [← hk]; simp; omega)
      clear x0 x1 x2 x3 x4 x5 y0 y1 y2 y3 y4 y5 f3 f4 f5
      have hu6 : usedB (upd pgs fr pg) n = true := by unfold usedB upd; rw [if_neg hnf]; exact hu
      have hll : (leftOf g at_ y fr).l.length = at_ := by show (g.l.take at_).length = at_; rw [List.length_take]; omega
      rw [List.length_take, Nat.min_eq_left (Nat.le_of_lt hat)] at hSl6
      go_wp2_with (first
        | (refine wpList_load_row rfl 199 (.tmp 3) rfl w.heap.size rfl 199 (partA n (leftOf g at_ y fr) (.slice (some ⟨s, o, none⟩) at_ c)) (0, 0) _ hP6 Tryz.underlying199 rfl (by kernel_rfl) ?_)
        | (go_at_call 151; go_loud (refine (twrite_w wb ba bm bw _ rt _ n (leftOf g at_ y fr) (.slice (some ⟨s, o, none⟩) at_ c) _ hWA6 (by rw [hll]; exact hSl6) (fun k hk => by injection hk with hk; rw [← hk]; show s < _; omega) hLk h0 h1 hu6 hr).mono ?_; rintro e w7 ⟨pgL, rfl, hPL, hWA7, hC7⟩)))
      obtain ⟨PL, hPL'⟩ : ∃ PL, PL = partA n (leftOf g at_ y fr) (.slice (some ⟨s, o, none⟩) at_ c) := ⟨_, rfl⟩
      obtain ⟨PR, hPR'⟩ : ∃ PR, PR = partA fr (rightOf g at_ y) (.slice (some ⟨s, o + at_ * 2, none⟩) (g.l.length - at_) (c - at_)) := ⟨_, rfl⟩
      have hlt6 := hWA6.ar.lt
      have hwl6 := Blk.lt hWA6.wk
      have hP7 : Blk w7 w.heap.size 199 PL := hPL' ▸ hP6.chg hC7 (by simp; omega)
      have hQ7 : Blk w7 w1.heap.size 199 PR := hPR' ▸ hB6.chg hC7 (by simp; omega)
      have hU7 := hU6.chg hC7 (by simp; omega)
      have hV7 := hV6.chg hC7 (by simp; omega)
      have hp1 : w.heap.size ≠ w.heap.size + 1 := by omega
      have hp2 : w.heap.size ≠ w.heap.size + 1 + 1 := by omega
      have hHalf := hH
      have hq1 : w1.heap.size ≠ w.heap.size + 1 := by omega
      have hq2 : w1.heap.size ≠ w.heap.size + 1 + 1 := by omega
      have hsL : PL.size = 6 := by rw [hPL']; rfl
      have hsR : PR.size = 6 := by rw [hPR']; rfl
      have hoL : PL.all (·.oneCell') = true := by rw [hPL']; simp [partA, Value.oneCell']
      have hoR : PR.all (·.oneCell') = true := by rw [hPR']; simp [partA, Value.oneCell']
      have hu199 := Tryz.underlying199
      have hiL : (Tryz.prog.info? 199).map (·.size) = some PL.toList.length := by rw [Array.length_toList, hsL]; kernel_rfl
      have hiR : (Tryz.prog.info? 199).map (·.size) = some PR.toList.length := by rw [Array.length_toList, hsR]; kernel_rfl
      have hi6L : (Tryz.prog.info? 199).map (·.size) = some PL.size := by rw [hsL]; kernel_rfl
      have hi6R : (Tryz.prog.info? 199).map (·.size) = some PR.size := by rw [hsR]; kernel_rfl
      have hS7 : ∀ W, Chg [w.heap.size + 1, w.heap.size + 1 + 1] w7 W → W.rangeAt w.heap.size 0 PL.toList ∧ W.rangeAt w1.heap.size 0 PR.toList ∧ Chg [w.heap.size + 1, w.heap.size + 1 + 1] w7 W := fun W hW =>
        ⟨fun j v hv => by rw [Nat.zero_add, (hP7.chg hW (by simp; try omega)).cell, ← Array.getElem?_toList]; exact hv, fun j v hv => by rw [Nat.zero_add, (hQ7.chg hW (by simp; omega)).cell, ← Array.getElem?_toList]; exact hv, hW⟩
      refine wp_region_held_drew (S := fun W => W.rangeAt w.heap.size 0 PL.toList ∧ W.rangeAt w1.heap.size 0 PR.toList ∧ Chg [w.heap.size + 1, w.heap.size + 1 + 1] w7 W) (by kernel_rfl) (hS7 _ ((Chg.refl _ w7).drew)) (fun hH => ?_)
      refine wpAnyH_take (i := 0) rfl (by kernel_rfl) (by kernel_rfl) (by kernel_rfl) (fun _ _ _ h => h) (yieldsIf_load_mid (by rfl) _ _ rfl _ _ rfl PL.toList _ (fun w' hw' => hw'.1) hu199 rfl hiL) hH ?_
      try simp only [Act.put, List.setIfInBounds_toArray, List.set_cons_zero, List.set_cons_succ]
      refine wpAnyH_take (i := 1) rfl (by kernel_rfl) (by kernel_rfl) (by kernel_rfl) (fun _ _ _ h => h) (yieldsIf_load_mid (by rfl) _ _ rfl _ _ rfl PR.toList _ (fun w' hw' => hw'.2.1) hu199 rfl hiR) hH ?_
      try simp only [Act.put, List.setIfInBounds_toArray, List.set_cons_zero, List.set_cons_succ]
      have hfin : ∀ w9, Blk w9 (w.heap.size + 1) 199 PL → Blk w9 (w.heap.size + 1 + 1) 199 PR → Chg [w.heap.size + 1, w.heap.size + 1 + 1] w7 w9 → Divided w wb ba bm bw (wd (pgs fr) 10).toNat rt pgs n g fr (.returned (.tuple #[.agg PL, .agg PR])) w9 := fun w9 b1 b2 b3 => by
        subst hPL' hPR'
        refine ⟨at_, y, pg, pgL, _, _, rfl, ⟨rfl, rfl⟩, hHalf, hy, hPg, hPL, hWA7.chg b3 (fun i hi => by simp at hi; omega), ?_⟩
        have c1 : Chg [wb, bw] w w6 := (hCC2.mono (by simp)).on hCC6 (fun i hi => by
          simp at hi
          rcases hi with h | h | h | h
          · left; simp [h]
          · left; simp [h]
          · right; omega
          · right; omega)
        exact (c1.trans hC7).on b3 (fun i hi => by simp at hi; right; omega)
      refine wpAnyH_ready (rs := [2]) (by kernel_rfl) (by simp) ?_
      refine AllReadyH.cons rfl (fun K hK => ?_) AllReadyH.nil
      rw [if_pos (by rfl)]
      refine op_store_blk 199 _ _ rfl (w.heap.size + 1) rfl PL (by simp [Act.eval]) 199 _ hU7.drew hi6L (by rw [hsL]; rfl) hoL ?_
      intro w8 hC8 hs8 hB8
      refine hK.out _ _ (hS7 _ (((Chg.refl _ w7).drew).trans (hC8.mono (by simp)))) (fun hH => ?_)
      clear hK K
      simp only [List.getElem_toArray, List.getElem_cons_succ, List.getElem_cons_zero, Act.put, List.setIfInBounds_toArray, List.set_cons_zero, List.set_cons_succ]
      refine wpAnyH_ready (rs := [3]) (by kernel_rfl) (by simp) ?_
      refine AllReadyH.cons rfl (fun K hK => ?_) AllReadyH.nil
      rw [if_pos (by rfl)]
      refine op_store_blk 199 _ _ rfl (w.heap.size + 1 + 1) rfl PR (by simp [Act.eval]) 199 _ (hV7.drew.chg hC8 (by simp)) hi6R (by rw [hsR]; rfl) hoR ?_
      intro w9 hC9 hs9 hB9
      refine hK.out _ _ (hS7 _ ((((Chg.refl _ w7).drew).trans (hC8.mono (by simp))).trans (hC9.mono (by simp)))) (fun hH => ?_)
      clear hK K
      simp only [List.getElem_toArray, List.getElem_cons_succ, List.getElem_cons_zero, Act.put, List.setIfInBounds_toArray, List.set_cons_zero, List.set_cons_succ]
      refine wpAnyH_done (by kernel_rfl) ?_ _
      go_wp2
      exact bodyPost_ret (res_row_row rfl _ (hB8.chg hC9 (by simp)) rfl hB9 rfl Tryz.underlying199 rfl hi6L Tryz.underlying199 rfl hi6R) rfl (hfin _ (hB8.chg hC9 (by simp)) hB9 ((((Chg.refl _ w7).drew).trans (hC8.mono (by simp))).trans (hC9.mono (by simp))))

end Go.Proofs.YtpcaadipejnllaaGreatDoor
