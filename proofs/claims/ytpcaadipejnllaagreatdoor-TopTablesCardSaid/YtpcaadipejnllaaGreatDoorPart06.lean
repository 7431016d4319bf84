/- A tree's work: parts that get a page. -/
import Derived.Test.YtpcaadipejnllaaGreatDoorPart05
import Derived.Deep.MidRow
import Derived.Laws.CopyOwn
import Derived.Lib.AppendZerosOnto
import Derived.Lib.Overlaps
import Derived.Laws.Externs
import Derived.Laws.NewBlocks

set_option linter.unusedVariables false
set_option linter.unusedSimpArgs false
namespace Go.Proofs.YtpcaadipejnllaaGreatDoor
open Go.RowKit

/-- What lies in the first cell of a block. -/
def cv (W : World) (P : Nat) : Value := (W.cell? ⟨P, 0, none⟩).getD undef

set_option maxRecDepth 100000 in
set_option maxHeartbeats 1000000 in
theorem talloc_w (wb ba bm bw fr rt : Nat) (pgs : Nat → List Nat) (n : Nat) (g : PG) (v : Value) (w : World) (hW : WA w wb ba bm bw fr rt pgs) (hS : Sl w 2 v g.l.length (prs g.l)) (hvb : ∀ k, v.ownBlock = some k → k < w.heap.size) (hg : g.Ok)
    (h0 : 1 ≤ fr) (h1 : fr ≤ 40) :
    Calls Tryz.prog 177 #[.pointer (some ⟨wb, 0, none⟩), .agg (partA n g v)] w fun e w' => ∃ pg, e = .returned (.agg (partA fr g v)) ∧ IsPage pg g ∧ WA w' wb ba bm bw (wd (pgs fr) 10).toNat rt (upd pgs fr pg) ∧ Chg [wb, bw] w w' := by
  have hlt := hW.ar.lt
  have hwl := Blk.lt hW.wk
  have hB0 := Blk.new w 199 (partA n g v)
  have hone9 : (partA n g v).all (·.oneCell') = true := by obtain ⟨A, c, rfl, _, _⟩ := hS.form; simp [partA, Value.oneCell']
  have hone9' : (partA fr g v).all (·.oneCell') = true := by obtain ⟨A, c, rfl, _, _⟩ := hS.form; simp [partA, Value.oneCell']
  go_enter Tryz.func177, Tryz.ntmps177
  go_wp2_with (first
    | (refine wpList_load_row rfl 199 (.tmp 3) rfl w.heap.size rfl 199 (partA n g v) (0, 0) _ (hB0.alloc _) Tryz.underlying199 rfl (by kernel_rfl) ?_)
    | (go_at_call 179; refine (image_w wb ba n g v _ ((Blk.alloc hW.wk _).alloc _) ((hS.ext ((Chg.refl _ _).alloc _)).ext ((Chg.refl _ _).alloc _)) (fun k hk => by have := hvb k hk; simp; omega) hg).mono ?_; rintro e w1 ⟨pg, rfl, hP, hW1, hC1⟩; have hsz : (nums pg).size = 128 := (by rw [nums_size]; exact hP.head.len); have hone : (nums pg).all (·.oneCell') = true := nums_one _; have hCC1 : Chg [wb] w w1 := (((Chg.refl _ _).alloc _).alloc _).trans hC1; have hP1 := (hB0.alloc _).chg hC1 (by simp; omega); have hR1 : Blk w1 (w.heap.size + 1) 199 _ := (Blk.newEq (by simp)).chg hC1 (by simp; omega); have hA1 := hW.ar.chg hCC1 (by simpa using hW.na.symm) (by simpa using hW.nm.symm) (by simpa using hW.nw.symm); have hs1 := hCC1.size)
    | (refine wpList_store_blk rfl 72 (.tmp 5) (.tmp 8) rfl w1.heap.size rfl (nums pg) rfl 72 _ (Blk.new w1 72 _) (hsz ▸ (by kernel_rfl)) (by rw [hsz]; rfl) hone ?_; intro w2 hC2 hs2 hB2; have hCC2 := (hCC1.alloc _).on hC2 (fun i hi => .inr (by simp at hi; omega)); have hlt1 := hA1.lt; have hwl1 := Blk.lt hW1; have hpl1 := hP1.lt; have hrl1 := hR1.lt; have hA2 := ((hA1.ext ((Chg.refl _ _).alloc _)).chg hC2 (by simp; omega) (by simp; omega) (by simp; omega)); have hW2 : Blk w2 wb 193 _ := (Blk.alloc hW1 _).chg hC2 (by simp; omega); have hP2 := (hP1.alloc _).chg hC2 (by simp; omega); have hR2 := (hR1.alloc _).chg hC2 (by simp; omega); have cw1 := hW2.cell 1; have hs2' : w2.heap.size = w1.heap.size + 1 := (by rw [hs2]; simp)))
  obtain ⟨q, hq⟩ : ∃ q, q = w1.heap.size := ⟨_, rfl⟩
  rw [← hq] at hB2
  have hqw : q ≠ wb := by omega
  have hqb : q ≠ bw := by omega
  have hqp : q ≠ w.heap.size := by omega
  have hu72 := Tryz.underlying72
  have hi72 : (Tryz.prog.info? 72).map (·.size) = some (nums pg).toList.length := by rw [Array.length_toList, hsz]; kernel_rfl
  have hS : ∀ W, (Blk W wb 193 #[.pointer (some ⟨ba, 0, none⟩), .int .i64 0] ∧ (∃ cs, Blk W w.heap.size 199 cs ∧ 0 < cs.size) ∧ Blk W q 72 (nums pg) ∧ Chg [wb, bw, w.heap.size] w2 W) → W.cell? ⟨wb, 0, none⟩ = some (.pointer (some ⟨ba, 0, none⟩)) ∧ W.cell? ⟨wb, 1, none⟩ = some (.int .i64 0) ∧ W.frozen? ⟨wb, 1, none⟩ = false ∧ W.cell? ⟨w.heap.size, 0, none⟩ = some (cv W w.heap.size) ∧ W.frozen? ⟨w.heap.size, 0, none⟩ = false ∧ W.rangeAt q 0 (nums pg).toList ∧ (Blk W wb 193 #[.pointer (some ⟨ba, 0, none⟩), .int .i64 0] ∧ (∃ cs, Blk W w.heap.size 199 cs ∧ 0 < cs.size) ∧ Blk W q 72 (nums pg) ∧ Chg [wb, bw, w.heap.size] w2 W) := fun W hW => by
    obtain ⟨i1, ⟨cs, i2, i3⟩, i4, i5⟩ := id hW
    refine ⟨by rw [i1.cell]; rfl, by rw [i1.cell]; rfl, i1.frozen 1, ?_, i2.frozen 0, fun j u hv => by rw [Nat.zero_add, i4.cell, ← Array.getElem?_toList]; exact hv, hW⟩
    unfold cv
    rw [i2.cell, Array.getElem?_eq_getElem i3]
    rfl
  have hK : ∀ W W', (Blk W wb 193 #[.pointer (some ⟨ba, 0, none⟩), .int .i64 0] ∧ (∃ cs, Blk W w.heap.size 199 cs ∧ 0 < cs.size) ∧ Blk W q 72 (nums pg) ∧ Chg [wb, bw, w.heap.size] w2 W) → Chg [bw] W W' → (Blk W' wb 193 #[.pointer (some ⟨ba, 0, none⟩), .int .i64 0] ∧ (∃ cs, Blk W' w.heap.size 199 cs ∧ 0 < cs.size) ∧ Blk W' q 72 (nums pg) ∧ Chg [wb, bw, w.heap.size] w2 W') := fun W W' h hC => by
    obtain ⟨i1, ⟨cs, i2, i3⟩, i4, i5⟩ := h
    exact ⟨i1.chg hC (by simpa using ‹WA w wb ba bm bw fr rt pgs›.nw), ⟨cs, i2.chg hC (by simp; omega), i3⟩, i4.chg hC (by simpa using hqb), i5.trans (hC.mono (by simp))⟩
  have hT1 : ∀ W z, (Blk W wb 193 #[.pointer (some ⟨ba, 0, none⟩), .int .i64 0] ∧ (∃ cs, Blk W w.heap.size 199 cs ∧ 0 < cs.size) ∧ Blk W q 72 (nums pg) ∧ Chg [wb, bw, w.heap.size] w2 W) → (Blk (W.setCell ⟨w.heap.size, 0, none⟩ z) wb 193 #[.pointer (some ⟨ba, 0, none⟩), .int .i64 0] ∧ (∃ cs, Blk (W.setCell ⟨w.heap.size, 0, none⟩ z) w.heap.size 199 cs ∧ 0 < cs.size) ∧ Blk (W.setCell ⟨w.heap.size, 0, none⟩ z) q 72 (nums pg) ∧ Chg [wb, bw, w.heap.size] w2 (W.setCell ⟨w.heap.size, 0, none⟩ z)) := fun W z h => by
    obtain ⟨i1, ⟨cs, i2, i3⟩, i4, i5⟩ := h
    exact ⟨i1.far (by simp; omega) _, ⟨_, i2.set_ 0 z, by simpa using i3⟩, i4.far (by simpa using hqp) _, i5.set _ (by simp) _⟩
  have hT2 : ∀ W, (Blk W wb 193 #[.pointer (some ⟨ba, 0, none⟩), .int .i64 0] ∧ (∃ cs, Blk W w.heap.size 199 cs ∧ 0 < cs.size) ∧ Blk W q 72 (nums pg) ∧ Chg [wb, bw, w.heap.size] w2 W) → (Blk (W.setCell ⟨wb, 1, none⟩ (.int .i64 0)) wb 193 #[.pointer (some ⟨ba, 0, none⟩), .int .i64 0] ∧ (∃ cs, Blk (W.setCell ⟨wb, 1, none⟩ (.int .i64 0)) w.heap.size 199 cs ∧ 0 < cs.size) ∧ Blk (W.setCell ⟨wb, 1, none⟩ (.int .i64 0)) q 72 (nums pg) ∧ Chg [wb, bw, w.heap.size] w2 (W.setCell ⟨wb, 1, none⟩ (.int .i64 0))) := fun W h => by
    obtain ⟨i1, ⟨cs, i2, i3⟩, i4, i5⟩ := h
    exact ⟨Blk.setEq i1 rfl, ⟨cs, i2.far (by simp; omega) _, i3⟩, i4.far (by simpa using hqw) _, i5.set _ (by simp) _⟩
  have hI0 : Blk w2.drew wb 193 #[.pointer (some ⟨ba, 0, none⟩), .int .i64 0] ∧ (∃ cs, Blk w2.drew w.heap.size 199 cs ∧ 0 < cs.size) ∧ Blk w2.drew q 72 (nums pg) ∧ Chg [wb, bw, w.heap.size] w2 w2.drew := ⟨hW2.drew, ⟨_, hP2.drew, (by simp [partA])⟩, hB2.drew, (Chg.refl _ _).drew⟩
  rw [← hq]
  go_region_held3 (fun W => W.cell? ⟨wb, 0, none⟩ = some (.pointer (some ⟨ba, 0, none⟩)) ∧ W.cell? ⟨wb, 1, none⟩ = some (.int .i64 0) ∧ W.frozen? ⟨wb, 1, none⟩ = false ∧ W.cell? ⟨w.heap.size, 0, none⟩ = some (cv W w.heap.size) ∧ W.frozen? ⟨w.heap.size, 0, none⟩ = false ∧ W.rangeAt q 0 (nums pg).toList ∧ (Blk W wb 193 #[.pointer (some ⟨ba, 0, none⟩), .int .i64 0] ∧ (∃ cs, Blk W w.heap.size 199 cs ∧ 0 < cs.size) ∧ Blk W q 72 (nums pg) ∧ Chg [wb, bw, w.heap.size] w2 W)) (first | exact hS _ hI0 | exact hS _ (hK _ _ hI0 (by assumption)) | exact hS _ (hT1 _ _ (hK _ _ hI0 (by assumption))) | exact hS _ (hT2 _ (hK _ _ hI0 (by assumption))) | exact hS _ (hT1 _ _ (hT2 _ (hK _ _ hI0 (by assumption)))) | exact hS _ (hT2 _ (hT1 _ _ (hK _ _ hI0 (by assumption))))) (first | (go_at_call 25; (try rw [Array.toArray_toList]); refine (alloc_s ba bm bw fr rt pgs pg _ (hA2.ext ((Chg.refl _ _).drew)) hP.is hP.valid h0 h1).mono ?_; rintro e w3 ⟨rfl, hC3, hA3⟩))
  have hP3 := (hP2.drew).chg hC3 (by simp; omega)
  have hR3 := (hR2.drew).chg hC3 (by simp; omega)
  have hW3 : Blk w3 wb 193 #[.pointer (some ⟨ba, 0, none⟩), .int .i64 0] := (Blk.drew hW2).chg hC3 (by simpa using hW.nw)
  have hlt3 := hA3.lt
  have hpw : w.heap.size ≠ wb := by omega
  have na := hW.na
  have nm := hW.nm
  have nw_ := hW.nw
  all_goals
    go_wp2_with (first
      | (refine wpList_load_row rfl 199 (.tmp 3) rfl w.heap.size rfl 199 (partA fr g v) (0, 0) _ (by first | exact (Blk.setEq hP3 rfl).far (by simp; omega) _ | exact Blk.setEq (hP3.far (by simp; omega) _) rfl) Tryz.underlying199 rfl (by kernel_rfl) ?_)
      | (refine wpList_store_blk rfl 199 (.tmp 4) (.tmp 27) rfl (w.heap.size + 1) rfl (partA fr g v) rfl 199 _ ((hR3.far (by simp; try omega) _).far (by simp; try omega) _) (by kernel_rfl) rfl hone9' ?_; intro w5 hC5 hs5 hB5))
    refine bodyPost_ret (res_row rfl _ hB5 rfl Tryz.underlying199 rfl (by kernel_rfl)) rfl ⟨pg, rfl, hP, ⟨?_, ?_, hW.na, hW.nm, hW.nw⟩, ?_⟩
    · first
        | exact (Blk.setEq (hW3.far (by simp; omega) _) rfl).chg hC5 (by simp; omega)
        | exact ((Blk.setEq hW3 rfl).far (by simp; omega) _).chg hC5 (by simp; omega)
    · first
        | exact hA3.chg (S := [wb, w.heap.size, w.heap.size + 1]) ((((Chg.refl _ w3).set ⟨w.heap.size, 0, none⟩ (by simp) _).set ⟨wb, 1, none⟩ (by simp) _).trans (hC5.mono (S := [wb, w.heap.size, w.heap.size + 1]) (by simp))) (by simp; omega) (by simp; omega) (by simp; omega)
        | exact hA3.chg (S := [wb, w.heap.size, w.heap.size + 1]) ((((Chg.refl _ w3).set ⟨wb, 1, none⟩ (by simp) _).set ⟨w.heap.size, 0, none⟩ (by simp) _).trans (hC5.mono (S := [wb, w.heap.size, w.heap.size + 1]) (by simp))) (by simp; omega) (by simp; omega) (by simp; omega)
    · have c3 : Chg [wb, bw] w w3 := ((hCC2.mono (S := [wb, bw]) (by simp)).drew).trans (hC3.mono (by simp))
      first
        | exact ((c3.set ⟨w.heap.size, 0, none⟩ (.inr (by simp)) _).set ⟨wb, 1, none⟩ (by simp) _).on hC5 (fun i hi => .inr (by simp at hi; omega))
        | exact ((c3.set ⟨wb, 1, none⟩ (by simp) _).set ⟨w.heap.size, 0, none⟩ (.inr (by simp)) _).on hC5 (fun i hi => .inr (by simp at hi; omega))

end Go.Proofs.YtpcaadipejnllaaGreatDoor

/- A root of two. -/
set_option linter.unusedVariables false
set_option linter.unusedSimpArgs false
namespace Go.Proofs.YtpcaadipejnllaaGreatDoor
open Go.RowKit

theorem Sl.ofBlk {w : World} {b size n : Nat} {t : TypeId} {cs : Array Value} (h : Blk w b t cs) (hn : cs.size = n * size) (hm : n ≤ 1000) : Sl w size (.slice (some ⟨b, 0, none⟩) n n) n cs.toList :=
  ⟨by rw [Array.length_toList, hn], some ⟨b, 0, none⟩, n, rfl, Nat.le_refl _, by unfold maxLen; omega, .inr ⟨b, 0, rfl, h.lt, fun j _ => by rw [Nat.zero_add, h.cell, Array.getElem?_toList]⟩⟩

/-- The page of a root of two pages. -/
def root2 (left right : Nat) (key : ByteArray) : PG := ⟨1, ⟨#[]⟩, ⟨#[]⟩, 0, [(⟨#[]⟩, numS left), (key, numS right)]⟩

theorem root2_ok (left right : Nat) (key : ByteArray) (h1 : 1 ≤ left) (h2 : left ≤ 511) (h3 : 1 ≤ right) (h4 : right ≤ 511) (hk0 : 0 < key.size) (hk : key.size ≤ 24) : (root2 left right key).Ok := by
  have e1 : (numS left).size = 8 := rfl
  have e2 : (numS right).size = 8 := rfl
  have e0 : (⟨#[]⟩ : ByteArray).size = 0 := rfl
  have n8 : nw 8 = 1 := rfl
  have n0 : nw 0 = 0 := rfl
  have nk : nw key.size ≤ 3 := nw_le (by omega)
  refine ⟨by show (1 : Nat) ≤ 5; omega, by show (⟨#[]⟩ : ByteArray).size ≤ 24; omega, by show (⟨#[]⟩ : ByteArray).size ≤ 24; omega, .inl rfl, by show (0 : Nat) ≤ 511; omega, ⟨?_, ?_, ?_, ?_, ?_⟩⟩
  · intro x hx
    simp only [root2, List.mem_cons, List.mem_nil_iff, or_false] at hx
    rcases hx with rfl | rfl
    · exact ⟨by show (⟨#[]⟩ : ByteArray).size ≤ 24; omega, by show (numS left).size ≤ 40; omega, by show 0 < (numS left).size; omega⟩
    · exact ⟨hk, by show (numS right).size ≤ 40; omega, by show 0 < (numS right).size; omega⟩
  · intro h; cases h
  · intro _ k x hx
    match k, hx with
    | 0, hx => simp [root2] at hx; subst hx; exact ⟨.inl ⟨rfl, rfl⟩, left, h1, h2, rfl⟩
    | 1, hx => simp [root2] at hx; subst hx; exact ⟨.inr hk0, right, h3, h4, rfl⟩
    | k + 2, hx => simp [root2] at hx
  · intro k x y hx hy
    match k, hx, hy with
    | 0, hx, hy => simp [root2] at hx hy; subst hx hy; exact cmp_empty key hk0
    | k + 1, hx, hy => simp [root2] at hy
  · show load [(⟨#[]⟩, numS left), (key, numS right)] ≤ 108
    simp only [load, List.map_cons, List.map_nil, List.sum_cons, List.sum_nil, costP, rec_, e0, e1, e2, n8, n0]
    omega

theorem of_root (l : List Pr) (v : Value) (w : World) (hL : OkL 1 l) (hS : Sl w 2 v l.length (prs l)) (hvb : ∀ k, v.ownBlock = some k → k < w.heap.size) :
    Calls Tryz.prog 183 #[.int .i64 1, .string ⟨#[]⟩, .string ⟨#[]⟩, .int .i64 0, v] w fun e w' => ∃ pg, e = .returned (.tuple #[.agg (nums pg), .int .i64 0]) ∧ Head pg 1 ⟨#[]⟩ ⟨#[]⟩ 0 ∧ Body pg l ∧ Chg [] w w' :=
  of_w 1 ⟨#[]⟩ ⟨#[]⟩ 0 l v w (by omega) (by show (⟨#[]⟩ : ByteArray).size ≤ 24; decide) (by show (⟨#[]⟩ : ByteArray).size ≤ 24; decide) (.inl rfl) (by omega) hL hS hvb

set_option maxRecDepth 100000 in
set_option maxHeartbeats 1000000 in
theorem root_w (left right : Nat) (key : ByteArray) (w : World) (h1 : 1 ≤ left) (h2 : left ≤ 511) (h3 : 1 ≤ right) (h4 : right ≤ 511) (hne : left ≠ right) (hk0 : 0 < key.size) (hk : key.size ≤ 24) :
    Calls Tryz.prog 155 #[.int .i64 1, .int .i64 left, .int .i64 right, .string key] w fun e w' => ∃ pg, e = .returned (.tuple #[.agg (nums pg), .int .i64 0]) ∧ IsPage pg (root2 left right key) ∧ Chg [] w w' := by
  have hok := root2_ok left right key h1 h2 h3 h4 hk0 hk
  have hl := hok.l
  have hne1 := nonemp hk0
  have hnb : ((left : Int) == (right : Int)) = false := by rw [beq_eq_false_iff_ne]; omega
  have hR0 : Blk (w.alloc (.cells Tryz.zeroCells72 72)) w.heap.size 72 (nums z128) := Blk.new w 72 _
  go_enter Tryz.func155, Tryz.ntmps155
  go_wp2_with (first
    | (go_at_call 178; have _h0 := hC1; refine (number_w right _ h3 h4).mono ?_; rintro e w2 ⟨rfl, hC2⟩)
    | (go_at_call 178; refine (number_w left _ h1 h2).mono ?_; rintro e w1 ⟨rfl, hC1⟩)
    | (go_at_call 183; go_loud (refine (of_root [(⟨#[]⟩, numS left), (key, numS right)] _ _ hl (Sl.ofBlk (Blk.new w2 93 #[.string ⟨#[]⟩, .string (numS left), .string key, .string (numS right)]) rfl (by simp)) (fun k hk => by injection hk with hk; subst hk; simp)).mono ?_; rintro e w3 ⟨pg, rfl, hH, hBd, hC3⟩; have hR3 := ((hR0.ext hC1).ext hC2).alloc _ |>.ext hC3; have hsz : (nums pg).size = 128 := (by rw [nums_size]; exact hH.len); have hone : (nums pg).all (·.oneCell') = true := nums_one _))
    | (refine wpList_store_blk rfl 72 (.tmp 8) (.tmp 62) rfl w.heap.size rfl (nums pg) rfl 72 _ hR3 (hsz ▸ (by kernel_rfl)) (by rw [hsz, nums_size, z128_len]) hone ?_; intro w4 hC4 hs4 hB4))
  exact bodyPost_ret (res_row_tmp rfl _ hB4 rfl rfl Tryz.underlying72 rfl (hsz ▸ (by kernel_rfl))) rfl ⟨pg, rfl, ⟨hH, hBd, hok.l, hok.lvl5, hok.nx⟩, ((((((Chg.refl _ _).alloc _).trans hC1).trans hC2).alloc _).trans hC3).on hC4 (by simp)⟩

end Go.Proofs.YtpcaadipejnllaaGreatDoor

/- Slices of pairs that are cut. -/
set_option linter.unusedVariables false
set_option linter.unusedSimpArgs false
namespace Go.Proofs.YtpcaadipejnllaaGreatDoor
open Go.RowKit

theorem prs_take (l : List Pr) (k : Nat) : (prs l).take (k * 2) = prs (l.take k) := by
  induction l generalizing k with
  | nil => simp [prs]
  | cons x l ih =>
    cases k with
    | zero => simp [prs]
    | succ k =>
      have e : prs (x :: l) = .string x.1 :: .string x.2 :: prs l := by simp [prs]
      have e2 : prs (x :: l.take k) = .string x.1 :: .string x.2 :: prs (l.take k) := by simp [prs]
      rw [e, List.take_succ_cons, e2, show (k + 1) * 2 = k * 2 + 1 + 1 by omega, List.take_succ_cons, List.take_succ_cons, ih]
theorem prs_drop (l : List Pr) (k : Nat) : (prs l).drop (k * 2) = prs (l.drop k) := by
  induction l generalizing k with
  | nil => simp [prs]
  | cons x l ih =>
    cases k with
    | zero => simp [prs]
    | succ k =>
      have e : prs (x :: l) = .string x.1 :: .string x.2 :: prs l := by simp [prs]
      rw [e, List.drop_succ_cons, show (k + 1) * 2 = k * 2 + 1 + 1 by omega, List.drop_succ_cons, List.drop_succ_cons, ih]

theorem Sl.take {w : World} {l : List Pr} {A : Option Addr} {c k : Nat} (h : Sl w 2 (.slice A l.length c) l.length (prs l)) (hk : k ≤ l.length) : Sl w 2 (.slice A k c) (l.take k).length (prs (l.take k)) := by
  have hl : (l.take k).length = k := by rw [List.length_take, Nat.min_eq_left hk]
  obtain ⟨_, A', c', e, h1, h2, h3⟩ := h
  injection e with e1 e2 e3
  subst e1 e3
  rw [hl]
  refine ⟨by rw [prs_len, hl], A, c, rfl, by omega, h2, ?_⟩
  rcases Nat.eq_zero_or_pos k with h0 | h0
  · exact .inl h0
  · rcases h3 with h3 | ⟨b, o, rfl, hb, hx⟩
    · omega
    · refine .inr ⟨b, o, rfl, hb, fun j hj => ?_⟩
      rw [hx j (by omega), ← prs_take, List.getElem?_take_of_lt hj]
theorem Sl.drop {w : World} {l : List Pr} {b o c k : Nat} (h : Sl w 2 (.slice (some ⟨b, o, none⟩) l.length c) l.length (prs l)) (hk : k < l.length) : Sl w 2 (.slice (some ⟨b, o + k * 2, none⟩) (l.length - k) (c - k)) (l.drop k).length (prs (l.drop k)) := by
  have hl : (l.drop k).length = l.length - k := List.length_drop
  obtain ⟨_, A', c', e, h1, h2, h3⟩ := h
  injection e with e1 e2 e3
  subst e1 e3
  rw [hl]
  refine ⟨by rw [prs_len, hl], _, _, rfl, by omega, by omega, .inr ?_⟩
  rcases h3 with h3 | ⟨b', o', e, hb, hx⟩
  · omega
  · injection e with e
    injection e with e1 e2
    subst e1 e2
    refine ⟨b, o + k * 2, rfl, hb, fun j hj => ?_⟩
    rw [Nat.add_assoc, hx (k * 2 + j) (by omega), ← prs_drop, List.getElem?_drop]

end Go.Proofs.YtpcaadipejnllaaGreatDoor

/- Binary search in a list of pairs, by a function that compares keys. -/
set_option linter.unusedVariables false
set_option linter.unusedSimpArgs false
namespace Go.Proofs.YtpcaadipejnllaaGreatDoor
open Go.RowKit

set_option maxRecDepth 100000 in
set_option maxHeartbeats 1000000 in
theorem cmp83_w (x : Pr) (key : ByteArray) (w : World) : Calls Tryz.prog 83 #[.agg #[.string x.1, .string x.2], .string key] w fun e w' => e = .returned (.int .i64 (cmpS x.1 key)) ∧ Chg [] w w' := by
  go_enter Tryz.func83, Tryz.ntmps83
  go_wp2_with (go_at_call 61; refine (compare_w _ _ _).mono ?_; rintro e w1 ⟨rfl, rfl⟩)
  go_ret
  exact ⟨rfl, (Chg.refl _ _).alloc _⟩

set_option maxRecDepth 100000 in
set_option maxHeartbeats 1000000 in
theorem cmp158_w (x : Pr) (key : ByteArray) (w : World) : Calls Tryz.prog 158 #[.agg #[.string x.1, .string x.2], .string key] w fun e w' => e = .returned (.int .i64 (cmpS x.1 key)) ∧ Chg [] w w' := by
  go_enter Tryz.func158, Tryz.ntmps158
  go_wp2_with (go_at_call 61; refine (compare_w _ _ _).mono ?_; rintro e w1 ⟨rfl, rfl⟩)
  go_ret
  exact ⟨rfl, (Chg.refl _ _).alloc _⟩

/-- The cells of a pair as a value. -/
theorem run_load93 (w : World) (b o : Nat) (x : Pr) (h1 : w.cell? ⟨b, o, none⟩ = some (.string x.1)) (h2 : w.cell? ⟨b, o + 1, none⟩ = some (.string x.2)) : (Instr.loadAt 93 (.pointer (some ⟨b, o, none⟩))).run Tryz.prog w = .ok (.agg #[.string x.1, .string x.2]) w := by
  have h := run_loadAt_mid (P := Tryz.prog) w b o 93 [.string x.1, .string x.2] _ (fun j v hv => by
    match j, hv with
    | 0, hv => simp at hv; subst hv; exact h1
    | 1, hv => simp at hv; subst hv; exact h2
    | n + 2, hv => simp at hv) Tryz.underlying93 rfl (by kernel_rfl)
  exact h

set_option maxRecDepth 100000 in
set_option maxHeartbeats 1000000 in
theorem bsearch83_w (l : List Pr) (key : ByteArray) (v : Value) (w : World) (hS : Sl w 2 v l.length (prs l)) (ho : Srt l) (hlen : l.length ≤ 1000) :
    Calls Tryz.prog 82 #[v, .string key, .func (.func 83) #[] #[]] w fun e w' => ∃ (i : Nat) (is : Bool), e = .returned (.tuple #[.int .i64 i, .bool is]) ∧ PlaceAt l key i is ∧ Chg [] w w' := by
  obtain ⟨A, c, rfl, hc1, hc2⟩ := hS.form
  go_enter Tryz.func82, Tryz.ntmps82
  go_wp2
  go_loopw [9, 10] (fun a b wr => ∃ lo hi : Nat, lo ≤ hi ∧ hi ≤ l.length ∧ a = .int .i64 lo ∧ b = .int .i64 hi ∧ (∀ (j : Nat) (x : Pr), j < lo → l[j]? = some x → cmpS x.1 key < 0) ∧ (∀ (j : Nat) (x : Pr), hi ≤ j → l[j]? = some x → 0 ≤ cmpS x.1 key) ∧ Chg [] w wr) (fun a b _ => (intOf b).toNat - (intOf a).toNat)
  case atStart => exact ⟨0, l.length, by omega, by omega, rfl, rfl, fun j x h => by omega, fun j x h1 h2 => by (have := (List.getElem?_eq_some_iff.1 h2).1; omega), Chg.refl _ _⟩
  case round =>
    obtain ⟨lo, hi, h1, h2, rfl, rfl, hlo, hhi, hC⟩ := hrel
    have hS2 := hS.ext hC
    by_cases hlt : lo < hi
    · obtain ⟨s, o, rfl, hs, hx'⟩ := hS2.at_ (by omega)
      obtain ⟨m, hm⟩ : ∃ m, m = (lo + hi) / 2 := ⟨_, rfl⟩
      obtain ⟨x, hxk⟩ : ∃ x, l[m]? = some x := ⟨_, List.getElem?_eq_getElem (by omega)⟩
      obtain ⟨g1, g2⟩ := prs_get l m x hxk
      have d1 := hx' (m * 2) (by omega)
      have d2 := hx' (m * 2 + 1) (by omega)
      rw [g1] at d1
      rw [g2, ← Nat.add_assoc] at d2
      have hw1 : IntKind.u64.wrap ((lo : Int) + (hi : Int)) = (lo : Int) + (hi : Int) := by rw [IntKind.wrap_u64]; omega
      have hw2 : IntKind.i64.wrap (((lo : Int) + (hi : Int)) / 2) = (m : Int) := by rw [IntKind.wrap_i64]; omega
      have hq2 : ((lo : Int) + (hi : Int)) / 2 = (m : Int) := by omega
      have hm1 : lo ≤ m := by omega
      have hm2 : m < hi := by omega
      clear hx' hm
      have hup : ∀ (j : Nat) (y : Pr), m < j → l[j]? = some y → cmpS x.1 y.1 < 0 := fun j y hj hy => ho m j x y hj hxk hy
      have hdn : ∀ (j : Nat) (y : Pr), j < m → l[j]? = some y → cmpS y.1 x.1 < 0 := fun j y hj hy => ho j m y x hj hy hxk
      have hld := run_load93 wr s (o + m * 2) x d1 d2
      rcases Int.lt_or_le (cmpS x.1 key) 0 with hv | hv
      · go_wp2_with (go_at_call 83; refine (cmp83_w x key _).mono ?_; rintro e w1 ⟨rfl, hC1⟩)
        go_roundw
        case rel =>
          refine ⟨m + 1, hi, by omega, h2, by go_num, rfl, fun j y hj hy => ?_, hhi, hC.trans hC1⟩
          rcases Nat.lt_or_ge j m with h | h
          · exact cmp_trans (hdn j y h hy) (by omega)
          · obtain rfl : j = m := by omega
            rw [hxk] at hy
            injection hy with hy
            subst hy
            omega
        case measure => simp [intOf]; omega
      · go_wp2_with (go_at_call 83; refine (cmp83_w x key _).mono ?_; rintro e w1 ⟨rfl, hC1⟩)
        go_roundw
        case rel =>
          refine ⟨lo, m, by omega, by omega, rfl, rfl, hlo, fun j y hj hy => ?_, hC.trans hC1⟩
          rcases Nat.lt_or_ge m j with h | h
          · have h3 := hup j y h hy
            have h4 : cmpS key x.1 ≤ 0 := by rw [cmp_anti]; omega
            have h5 := cmp_le_lt h4 h3
            rw [cmp_anti]
            omega
          · obtain rfl : j = m := by omega
            rw [hxk] at hy
            injection hy with hy
            subst hy
            omega
        case measure => simp [intOf]; omega
    · obtain rfl : lo = hi := by omega
      by_cases hlt2 : lo < l.length
      · obtain ⟨s, o, rfl, hs, hx'⟩ := hS2.at_ (by omega)
        obtain ⟨x, hxk⟩ : ∃ x, l[lo]? = some x := ⟨_, List.getElem?_eq_getElem (by omega)⟩
        obtain ⟨g1, g2⟩ := prs_get l lo x hxk
        have d1 := hx' (lo * 2) (by omega)
        have d2 := hx' (lo * 2 + 1) (by omega)
        rw [g1] at d1
        rw [g2, ← Nat.add_assoc] at d2
        clear hx'
        have hld := run_load93 wr s (o + lo * 2) x d1 d2
        go_wp2_with (go_at_call 83; refine (cmp83_w x key _).mono ?_; rintro e w1 ⟨rfl, hC1⟩)
        go_ret2
        refine ⟨lo, cmpS x.1 key == 0, rfl, ⟨by omega, hlo, fun j y hj hy => hhi j y hj hy, ?_⟩, hC.trans hC1⟩
        rw [beq_iff_eq]
        constructor
        · intro h; exact ⟨x, hxk, cmp_eq0 h⟩
        · rintro ⟨z, hz, rfl⟩
          rw [hxk] at hz
          injection hz with hz
          rw [hz]; exact cmp_refl _
      · go_wp2
        go_ret2
        refine ⟨lo, false, rfl, ⟨by omega, hlo, fun j y hj hy => hhi j y hj hy, ?_⟩, hC⟩
        constructor
        · intro h; cases h
        · rintro ⟨z, hz, _⟩
          have := (List.getElem?_eq_some_iff.1 hz).1
          omega

set_option maxRecDepth 100000 in
set_option maxHeartbeats 1000000 in
theorem bsearch158_w (l : List Pr) (key : ByteArray) (v : Value) (w : World) (hS : Sl w 2 v l.length (prs l)) (ho : Srt l) (hlen : l.length ≤ 1000) :
    Calls Tryz.prog 82 #[v, .string key, .func (.func 158) #[] #[]] w fun e w' => ∃ (i : Nat) (is : Bool), e = .returned (.tuple #[.int .i64 i, .bool is]) ∧ PlaceAt l key i is ∧ Chg [] w w' := by
  obtain ⟨A, c, rfl, hc1, hc2⟩ := hS.form
  go_enter Tryz.func82, Tryz.ntmps82
  go_wp2
  go_loopw [9, 10] (fun a b wr => ∃ lo hi : Nat, lo ≤ hi ∧ hi ≤ l.length ∧ a = .int .i64 lo ∧ b = .int .i64 hi ∧ (∀ (j : Nat) (x : Pr), j < lo → l[j]? = some x → cmpS x.1 key < 0) ∧ (∀ (j : Nat) (x : Pr), hi ≤ j → l[j]? = some x → 0 ≤ cmpS x.1 key) ∧ Chg [] w wr) (fun a b _ => (intOf b).toNat - (intOf a).toNat)
  case atStart => exact ⟨0, l.length, by omega, by omega, rfl, rfl, fun j x h => by omega, fun j x h1 h2 => by (have := (List.getElem?_eq_some_iff.1 h2).1; omega), Chg.refl _ _⟩
  case round =>
    obtain ⟨lo, hi, h1, h2, rfl, rfl, hlo, hhi, hC⟩ := hrel
    have hS2 := hS.ext hC
    by_cases hlt : lo < hi
    · obtain ⟨s, o, rfl, hs, hx'⟩ := hS2.at_ (by omega)
      obtain ⟨m, hm⟩ : ∃ m, m = (lo + hi) / 2 := ⟨_, rfl⟩
      obtain ⟨x, hxk⟩ : ∃ x, l[m]? = some x := ⟨_, List.getElem?_eq_getElem (by omega)⟩
      obtain ⟨g1, g2⟩ := prs_get l m x hxk
      have d1 := hx' (m * 2) (by omega)
      have d2 := hx' (m * 2 + 1) (by omega)
      rw [g1] at d1
      rw [g2, ← Nat.add_assoc] at d2
      have hw1 : IntKind.u64.wrap ((lo : Int) + (hi : Int)) = (lo : Int) + (hi : Int) := by rw [IntKind.wrap_u64]; omega
      have hw2 : IntKind.i64.wrap (((lo : Int) + (hi : Int)) / 2) = (m : Int) := by rw [IntKind.wrap_i64]; omega
      have hq2 : ((lo : Int) + (hi : Int)) / 2 = (m : Int) := by omega
      have hm1 : lo ≤ m := by omega
      have hm2 : m < hi := by omega
      clear hx' hm
      have hup : ∀ (j : Nat) (y : Pr), m < j → l[j]? = some y → cmpS x.1 y.1 < 0 := fun j y hj hy => ho m j x y hj hxk hy
      have hdn : ∀ (j : Nat) (y : Pr), j < m → l[j]? = some y → cmpS y.1 x.1 < 0 := fun j y hj hy => ho j m y x hj hy hxk
      have hld := run_load93 wr s (o + m * 2) x d1 d2
      rcases Int.lt_or_le (cmpS x.1 key) 0 with hv | hv
      · go_wp2_with (go_at_call 158; refine (cmp158_w x key _).mono ?_; rintro e w1 ⟨rfl, hC1⟩)
        go_roundw
        case rel =>
          refine ⟨m + 1, hi, by omega, h2, by go_num, rfl, fun j y hj hy => ?_, hhi, hC.trans hC1⟩
          rcases Nat.lt_or_ge j m with h | h
          · exact cmp_trans (hdn j y h hy) (by omega)
          · obtain rfl : j = m := by omega
            rw [hxk] at hy
            injection hy with hy
            subst hy
            omega
        case measure => simp [intOf]; omega
      · go_wp2_with (go_at_call 158; refine (cmp158_w x key _).mono ?_; rintro e w1 ⟨rfl, hC1⟩)
        go_roundw
        case rel =>
          refine ⟨lo, m, by omega, by omega, rfl, rfl, hlo, fun j y hj hy => ?_, hC.trans hC1⟩
          rcases Nat.lt_or_ge m j with h | h
          · have h3 := hup j y h hy
            have h4 : cmpS key x.1 ≤ 0 := by rw [cmp_anti]; omega
            have h5 := cmp_le_lt h4 h3
            rw [cmp_anti]
            omega
          · obtain rfl : j = m := by omega
            rw [hxk] at hy
            injection hy with hy
            subst hy
            omega
        case measure => simp [intOf]; omega
    · obtain rfl : lo = hi := by omega
      by_cases hlt2 : lo < l.length
      · obtain ⟨s, o, rfl, hs, hx'⟩ := hS2.at_ (by omega)
        obtain ⟨x, hxk⟩ : ∃ x, l[lo]? = some x := ⟨_, List.getElem?_eq_getElem (by omega)⟩
        obtain ⟨g1, g2⟩ := prs_get l lo x hxk
        have d1 := hx' (lo * 2) (by omega)
        have d2 := hx' (lo * 2 + 1) (by omega)
        rw [g1] at d1
        rw [g2, ← Nat.add_assoc] at d2
        clear hx'
        have hld := run_load93 wr s (o + lo * 2) x d1 d2
        go_wp2_with (go_at_call 158; refine (cmp158_w x key _).mono ?_; rintro e w1 ⟨rfl, hC1⟩)
        go_ret2
        refine ⟨lo, cmpS x.1 key == 0, rfl, ⟨by omega, hlo, fun j y hj hy => hhi j y hj hy, ?_⟩, hC.trans hC1⟩
        rw [beq_iff_eq]
        constructor
        · intro h; exact ⟨x, hxk, cmp_eq0 h⟩
        · rintro ⟨z, hz, rfl⟩
          rw [hxk] at hz
          injection hz with hz
          rw [hz]; exact cmp_refl _
      · go_wp2
        go_ret2
        refine ⟨lo, false, rfl, ⟨by omega, hlo, fun j y hj hy => hhi j y hj hy, ?_⟩, hC⟩
        constructor
        · intro h; cases h
        · rintro ⟨z, hz, _⟩
          have := (List.getElem?_eq_some_iff.1 hz).1
          omega

end Go.Proofs.YtpcaadipejnllaaGreatDoor

/- Pairs copied from slice to slice. -/
set_option linter.unusedVariables false
set_option linter.unusedSimpArgs false
namespace Go.Proofs.YtpcaadipejnllaaGreatDoor
open Go.RowKit

theorem prs_one' (l : List Pr) : ∀ v ∈ prs l, v.oneCell' = true := by
  intro v hv
  simp [prs] at hv
  obtain ⟨a, b, _, h | h⟩ := hv <;> (subst h; rfl)

theorem run_copyP (w : World) (ty : TypeId) (g off dLen dCap : Nat) (sp : Addr) (sLen sCap : Nat) (t : TypeId) (cur : Array Value) (cs : List Value) (k : Nat) (hk : k = Nat.min sLen dLen) (hl : cs.length = k * 2)
    (hg : Blk w g t cur) (hsrc : ∀ j v, cs[j]? = some v → w.cell? (sp.add j) = some v) (hfit : off + cs.length ≤ cur.size) (h1 : ∀ v ∈ cs, v.oneCell' = true) :
    (Builtin.copy_ #[94, 94] ty #[.slice (some ⟨g, off, none⟩) dLen dCap, .slice (some sp) sLen sCap]).run Tryz.prog w = .ok (goInt k) (w.setRow g (splice cur.toList off cs).toArray) := by
  have hld := run_loadCells_list (P := Tryz.prog) w sp cs hsrc
  have hst := run_storeCells_at Tryz.prog g off t cs 0 cur w hg (by simpa using hfit) h1
  obtain ⟨i0, hi, hz0, hz1, hz2⟩ := info_parts info93
  rw [hl] at hld
  have e : cur.toList.take off ++ (cs ++ cur.toList.drop (off + cs.length)) = splice cur.toList off cs := rfl
  simp [Builtin.copy_, run_underlying Tryz.underlying94, Builtin.lenOf, Builtin.firstCells, sizeOf, typeInfo, hi, hz1, ← hk, hld, hst, e]

theorem blk_setRow {w : World} {g : Nat} {t : TypeId} {cur : Array Value} (hg : Blk w g t cur) (cs : Array Value) : Blk (w.setRow g cs) g t cs ∧ Chg [g] w (w.setRow g cs) ∧ (w.setRow g cs).heap.size = w.heap.size :=
  ⟨setRow_heap w g cur cs t _ hg, ⟨rfl, rfl, rfl, by simp [World.setRow], fun k hk hn => setRow_other w g k _ (by simpa using hn)⟩, by simp [World.setRow]⟩

section
variable {ops : Array Oper} {rest : List Oper} {o : Oper} {a : Act} {w : World} {Q : Exit → Act → World → Prop}
theorem oper_copy_at {K : Act → World → Prop} (d s : Operand) (ho : o.op = .call { callee := .builtin .copy, args := #[d, s], argTypes := #[94, 94] }) (g off dLen dCap : Nat)
    (hd : a.eval d = .slice (some ⟨g, off, none⟩) dLen dCap) (b p sLen sCap : Nat) (hs : a.eval s = .slice (some ⟨b, p, none⟩) sLen sCap) (n : Nat) (l : List Pr) (hln : l.length = n) (hn : n = Nat.min sLen dLen) (t : TypeId) (cur : Array Value) (hB : Blk w g t cur)
    (hx : ∀ j, j < n * 2 → w.cell? ⟨b, p + j, none⟩ = (prs l)[j]?) (hf : off + n * 2 ≤ cur.size)
    (h : ∀ w', Chg [g] w w' → w'.heap.size = w.heap.size → Blk w' g t (splice cur.toList off (prs l)).toArray → K (a.put o.dst (goInt n)) w') : Oper.wp Tryz.prog o a w K Q := by
  have hl : (prs l).length = n * 2 := by rw [prs_len, hln]
  have hrun := run_copyP w o.type g off dLen dCap ⟨b, p, none⟩ sLen sCap t cur (prs l) n hn hl hB (fun j u hj => by
    have := (List.getElem?_eq_some_iff.1 hj).1
    rw [add_mk, hx j (by omega)]
    exact hj) (by omega) (prs_one' l)
  obtain ⟨r1, r2, r3⟩ := blk_setRow hB (splice cur.toList off (prs l)).toArray
  unfold Oper.wp execOp
  simp only [ho, resolve, invoke, builtin, Sem.run_bind, Sem.run_pure, Result.andThen_ok, List.map_toArray, List.map_cons, List.map_nil, hd, hs, hrun]
  exact h _ r2 r3 r1
theorem wpList_copy_at (hgd : o.guard = none) (d s : Operand) (ho : o.op = .call { callee := .builtin .copy, args := #[d, s], argTypes := #[94, 94] }) (g off dLen dCap : Nat)
    (hd : a.eval d = .slice (some ⟨g, off, none⟩) dLen dCap) (b p sLen sCap : Nat) (hs : a.eval s = .slice (some ⟨b, p, none⟩) sLen sCap) (n : Nat) (l : List Pr) (hln : l.length = n) (hn : n = Nat.min sLen dLen) (t : TypeId) (cur : Array Value) (hB : Blk w g t cur)
    (hx : ∀ j, j < n * 2 → w.cell? ⟨b, p + j, none⟩ = (prs l)[j]?) (hf : off + n * 2 ≤ cur.size)
    (h : ∀ w', Chg [g] w w' → w'.heap.size = w.heap.size → Blk w' g t (splice cur.toList off (prs l)).toArray → wpList Tryz.prog ops Q rest (a.put o.dst (goInt n)) w') : wpList Tryz.prog ops Q (o :: rest) a w :=
  wpList_plain hgd fun _ hK => oper_copy_at d s ho g off dLen dCap hd b p sLen sCap hs n l hln hn t cur hB hx hf (fun w' h1 h2 h3 => hK _ _ (h w' h1 h2 h3))
end

/-- Two blocks that are known whole and are not one share nothing. -/
theorem Blk.shape {w : World} {g : Nat} {t : TypeId} {cs : Array Value} (h : Blk w g t cs) : w.shape? g = some (t, cs.size) := by
  unfold Blk at h
  simp [World.shape?, h]
theorem run_overlapsP (w : World) (a b : Nat) (oa ob la ca lb cb : Nat) (tA tB : TypeId) (ra rb : Array Value) (hA : Blk w a tA ra) (hB : Blk w b tB rb) (hne : a ≠ b) (h0 : rb.size ≠ 0) :
    (callFunc 118 #[.slice (some ⟨a, oa, none⟩) la ca, .slice (some ⟨b, ob, none⟩) lb cb]).run Tryz.prog w = .ok (.value (.bool false)) w := by
  rw [run_callFunc_extern Tryz.func118 (by kernel_rfl) (by kernel_rfl) (by kernel_rfl) (e := Extern.SlicesOverlaps.overlaps #[94, 94] #[4]) (by kernel_rfl),
    Lib.run_overlaps_apart w 94 4 93 Tryz.underlying94 2 (fun w => by
      obtain ⟨i0, hi, hz0, hz1, hz2⟩ := info_parts info93
      simp [sizeOf, typeInfo, hi, hz1]) ⟨a, oa, none⟩ ⟨b, ob, none⟩ la ca lb cb hne tA tB ra.size rb.size hA.shape hB.shape h0 (hA.frozen _) (hA.frozen _)]
  rfl

end Go.Proofs.YtpcaadipejnllaaGreatDoor

/- A pair inserted into a slice of pairs. -/
set_option linter.unusedVariables false
set_option linter.unusedSimpArgs false
namespace Go.Proofs.YtpcaadipejnllaaGreatDoor
open Go.RowKit

theorem Chg.of_grown {w w' : World} {r : Option Nat} (h : w.grownBy w' r) : Chg r.toList w w' := ⟨h.os, h.tape, h.output, h.size, fun k hk hn => h.block k hk (fun e => hn (by simp [e]))⟩

/-- What an insertion leaves. -/
def Inserted (base : Nat) (l : List Pr) (v : Value) (w : World) (e : Ending) (w' : World) : Prop := ∃ v', e = .returned v' ∧ w'.ownsRow base 93 2 v' l.length (prs l) ∧ Chg v.ownBlock.toList w w'

set_option maxRecDepth 100000 in
set_option maxHeartbeats 1000000 in
theorem insert_end (base : Nat) (l : List Pr) (x : Pr) (v : Value) (w : World) (hown : w.ownsRow base 93 2 v l.length (prs l)) (hb : base ≤ w.heap.size) (hlen : l.length ≤ 1000) (vb : Nat) (hX : Blk w vb 93 #[.string x.1, .string x.2]) :
    Calls Tryz.prog 84 #[v, .int .i64 l.length, .slice (some ⟨vb, 0, none⟩) 1 1] w (Inserted base (l ++ [x]) v w) := by
  obtain ⟨i0, hi, hz0, hz1, hz2⟩ := info_parts info93
  obtain ⟨A, c, rfl, hc1, hc2⟩ := (Sl.own hown).form
  have hc3 : c ≤ 9223372036854775807 := by unfold maxLen at hc2; omega
  go_enter Tryz.func84, Tryz.ntmps84
  go_wp2_with (at_builtin; refine wpList_append_own _ rfl _ _ 94 rfl base 93 i0 _ 2 32 Tryz.underlying94 hi hz0 hz1 hz2 rfl (by decide) _ _ _ rfl hown ⟨vb, 0, none⟩ 1 1 [.string x.1, .string x.2] rfl rfl ?c1 (by simp [Value.oneCell']) (by unfold maxLen; omega) (by omega) hb ?c2)
  case c1 =>
    intro j u hj
    rw [add_mk, Nat.zero_add, hX.cell]
    match j, hj with
    | 0, hj => simpa using hj
    | 1, hj => simpa using hj
    | n + 2, hj => simp at hj
  all_goals
    intro v' w' hown' hg _
    go_wp2
    go_ret
    exact ⟨v', rfl, by rw [List.length_append, prs_app, prs_one]; exact hown', by cases A <;> exact Chg.of_grown hg⟩

/-- The cells of a row behind the insertion of a pair. -/
theorem splice_ins (l : List Pr) (x : Pr) (i : Nat) (hi : i ≤ l.length) (cur : List Value) (hc : (l.length + 1) * 2 ≤ cur.length) (ht : cur.take (i * 2) = prs (l.take i)) :
    (splice (splice cur ((i + 1) * 2) (prs (l.drop i))) (i * 2) [.string x.1, .string x.2]).take ((l.length + 1) * 2) = prs (l.take i ++ x :: l.drop i) := by
  have hd : (prs (l.drop i)).length = (l.length - i) * 2 := by rw [prs_len, List.length_drop]
  have h1 : (splice cur ((i + 1) * 2) (prs (l.drop i))).take (i * 2) = prs (l.take i) := by
    unfold splice
    rw [List.take_append_of_le_length (by rw [List.length_take]; omega), List.take_take, Nat.min_eq_left (by omega), ht]
  have h2 : (splice cur ((i + 1) * 2) (prs (l.drop i))).drop (i * 2 + 2) = prs (l.drop i) ++ cur.drop ((i + 1) * 2 + (l.length - i) * 2) := by
    unfold splice
    rw [List.drop_append_of_le_length (by rw [List.length_take]; omega), show i * 2 + 2 = (i + 1) * 2 by omega]
    have : (cur.take ((i + 1) * 2)).drop ((i + 1) * 2) = [] := List.drop_eq_nil_of_le (by rw [List.length_take]; omega)
    rw [this, List.nil_append, hd]
  have e : prs (l.take i ++ x :: l.drop i) = prs (l.take i) ++ ([.string x.1, .string x.2] ++ prs (l.drop i)) := by
    rw [prs_app]
    rfl
  have hlen : (prs (l.take i) ++ ([Value.string x.1, .string x.2] ++ prs (l.drop i))).length = (l.length + 1) * 2 := by
    rw [List.length_append, List.length_append, hd, prs_len, List.length_take, Nat.min_eq_left hi]
    simp
    omega
  rw [e, ← hlen]
  conv => lhs; rw [splice]
  rw [h1, List.length_cons, List.length_cons, List.length_nil, show i * 2 + (0 + 1 + 1) = i * 2 + 2 by omega, h2]
  rw [← List.append_assoc, ← List.append_assoc, ← List.append_assoc, List.take_append_of_le_length (by simp), List.append_assoc, List.take_length]

set_option maxRecDepth 100000 in
set_option maxHeartbeats 1000000 in
theorem insert_mid (base : Nat) (l : List Pr) (x : Pr) (g c i : Nat) (cur : Array Value) (w : World) (hg : Blk w g 93 cur) (hbg : base ≤ g) (hnc : l.length ≤ c) (hcm : c ≤ maxLen) (hsz : cur.size = c * 2) (ht : cur.toList.take (l.length * 2) = prs l)
    (hi : i < l.length) (hlen : l.length ≤ 1000) (vb : Nat) (hX : Blk w vb 93 #[.string x.1, .string x.2]) (hne : vb ≠ g) (hroom : l.length + 1 ≤ c) :
    Calls Tryz.prog 84 #[.slice (some ⟨g, 0, none⟩) l.length c, .int .i64 i, .slice (some ⟨vb, 0, none⟩) 1 1] w (Inserted base (l.take i ++ x :: l.drop i) (.slice (some ⟨g, 0, none⟩) l.length c) w) := by
  have hc3 : c ≤ 9223372036854775807 := by unfold maxLen at hcm; omega
  have n1 : ((i : Int) == (l.length : Int)) = false := by rw [beq_eq_false_iff_ne]; omega
  have n2 : decide ((c : Int) < (l.length : Int) + 1) = false := decide_eq_false (by omega)
  have hov : ∀ lb cb, (callFunc 118 #[.slice (some ⟨vb, 0, none⟩) 1 1, .slice (some ⟨g, (i + 1) * 2, none⟩) lb cb]).run Tryz.prog w = .ok (.value (.bool false)) w := fun lb cb =>
    run_overlapsP w vb g 0 ((i + 1) * 2) 1 1 lb cb 93 93 _ cur hX hg hne (by omega)
  go_enter Tryz.func84, Tryz.ntmps84
  go_wp2_with (simp only [hov])
  have hS := fun (W : World) (hC : Chg [] w W) => (Sl.ext (⟨by rw [prs_len], some ⟨g, 0, none⟩, c, rfl, hnc, hcm, .inr ⟨g, 0, rfl, hg.lt, fun j hj => by
    rw [Nat.zero_add, hg.cell, ← ht, List.getElem?_take_of_lt hj, Array.getElem?_toList]⟩⟩ : Sl w 2 (.slice (some ⟨g, 0, none⟩) l.length c) l.length (prs l)) hC)
  have hdl : (l.drop i).length = l.length - i := List.length_drop
  have hcl : cur.toList.length = c * 2 := by rw [Array.length_toList, hsz]
  have hw1 : IntKind.i64.wrap ((i : Int) + 1) = (i : Int) + 1 := by rw [IntKind.wrap_i64]; omega
  have hb1 : (0 : Int) ≤ (i : Int) + 1 := by omega
  have hin : i ≤ l.length := by omega
  have htn : ((i : Int) + 1).toNat = i + 1 := by omega
  have hb2 : ¬ (c = i + 1) := by omega
  have hb3 : (i : Int) ≤ (l.length : Int) + 1 := by omega
  have hb4 : ¬ (c = i) := by omega
  have hb5 : (i : Int) + 1 ≤ (l.length : Int) + 1 := by omega
  refine wp_region_tail 8 (by kernel_rfl) (by kernel_rfl) ?_
  simp only [List.take_succ_cons, List.take_zero, List.drop_succ_cons, List.drop_zero]
  repeat still_step
  refine wpStill_nil ?_
  have hx1 : ∀ j, j < (l.length - i) * 2 → w.drew.cell? ⟨g, i * 2 + j, none⟩ = (prs (l.drop i))[j]? := fun j hj => by
    show w.cell? _ = _
    rw [hg.cell, ← prs_drop, List.getElem?_drop, ← ht, List.getElem?_take_of_lt (by omega), Array.getElem?_toList]
  refine wpList_copy_at rfl (.tmp 73) (.tmp 76) rfl g ((i + 1) * 2) _ _ rfl g (i * 2) _ _ rfl (l.length - i) (l.drop i) hdl ?c1 93 cur hg.drew hx1 (by omega) ?c2
  case c1 => simp only [Nat.min_def]; split <;> omega
  case c2 =>
    intro w2 hC2 hs2 hB2
    have hX2 : Blk w2 vb 93 _ := hX.drew.chg hC2 (by simpa using hne)
    go_wp2_with (first | (refine wpList_copy_at rfl (.tmp 80) (.tmp 81) rfl g (i * 2) _ _ rfl vb 0 _ _ rfl 1 [x] rfl ?c3 93 _ hB2 ?c4 ?c5 ?c6))
    case c3 => simp only [Nat.min_def]; split <;> omega
    case c4 =>
      intro j hj
      rw [hX2.cell, Nat.zero_add]
      match j, hj with
      | 0, _ => rfl
      | 1, _ => rfl
    case c5 =>
      have hq : (splice cur.toList ((i + 1) * 2) (prs (l.drop i))).length = cur.toList.length := length_splice _ _ _ (by rw [prs_len, hdl]; omega)
      rw [List.size_toArray, hq]
      omega
    case c6 =>
      intro w3 hC3 hs3 hB3
      go_wp2
      go_ret
      have hC : Chg [g] w w3 := (((Chg.refl [g] w).drew).trans hC2).trans hC3
      refine ⟨_, rfl, ?_, hC⟩
      have hl2 : (l.take i ++ x :: l.drop i).length = l.length + 1 := by simp; omega
      have hq : (splice cur.toList ((i + 1) * 2) (prs (l.drop i))).length = cur.toList.length := length_splice _ _ _ (by rw [prs_len, hdl]; omega)
      have hq2 : (splice (splice cur.toList ((i + 1) * 2) (prs (l.drop i))) (i * 2) (prs [x])).length = cur.toList.length := by
        rw [length_splice _ _ _ (by rw [hq, prs_one]; simp only [List.length_cons, List.length_nil]; omega), hq]
      rw [hl2]
      refine ⟨by rw [prs_len, hl2], .inr ⟨g, c, _, rfl, hbg, hB3, hroom, hcm, by rw [List.size_toArray, hq2, hcl], ?_⟩⟩
      rw [List.toList_toArray, prs_one]
      exact splice_ins l x i (by omega) cur.toList (by omega) (by
        rw [← prs_take, ← ht, List.take_take, Nat.min_eq_left (by omega)])

theorem splice_ins2 (l : List Pr) (x : Pr) (i : Nat) (hi : i ≤ l.length) (cur : List Value) (hc : (l.length + 1) * 2 ≤ cur.length) (ht : cur.take (i * 2) = prs (l.take i)) :
    (splice (splice cur (i * 2) [.string x.1, .string x.2]) ((i + 1) * 2) (prs (l.drop i))).take ((l.length + 1) * 2) = prs (l.take i ++ x :: l.drop i) := by
  have hd : (prs (l.drop i)).length = (l.length - i) * 2 := by rw [prs_len, List.length_drop]
  have ht2 : (prs (l.take i)).length = i * 2 := by rw [prs_len, List.length_take, Nat.min_eq_left hi]
  have h1 : (splice cur (i * 2) [Value.string x.1, .string x.2]).take ((i + 1) * 2) = prs (l.take i) ++ [.string x.1, .string x.2] := by
    unfold splice
    rw [ht, ← List.append_assoc, List.take_append_of_le_length (by simp [ht2]; omega), List.take_of_length_le (by simp [ht2]; omega)]
  have e : prs (l.take i ++ x :: l.drop i) = (prs (l.take i) ++ [.string x.1, .string x.2]) ++ prs (l.drop i) := by
    rw [prs_app, List.append_assoc]
    rfl
  have hlen : ((prs (l.take i) ++ [Value.string x.1, .string x.2]) ++ prs (l.drop i)).length = (l.length + 1) * 2 := by
    simp [hd, ht2]
    omega
  rw [e, ← hlen]
  conv => lhs; rw [splice]
  rw [h1, ← List.append_assoc, List.take_append_of_le_length (by simp), List.take_length]

theorem zc93 (k : Nat) : (Builtin.zeroCells (Value.agg #[.string ⟨#[]⟩, .string ⟨#[]⟩]).cells k).size = k * 2 := by
  simp [Builtin.zeroCells, Value.cells]

set_option maxRecDepth 100000 in
set_option maxHeartbeats 1000000 in
theorem insert_grow (base : Nat) (l : List Pr) (x : Pr) (g c i : Nat) (cur : Array Value) (w : World) (hg : Blk w g 93 cur) (hbw : base ≤ w.heap.size) (hnc : l.length ≤ c) (ht : cur.toList.take (l.length * 2) = prs l)
    (hi : i < l.length) (hlen : l.length ≤ 1000) (vb : Nat) (hX : Blk w vb 93 #[.string x.1, .string x.2]) (hroom : c < l.length + 1) :
    Calls Tryz.prog 84 #[.slice (some ⟨g, 0, none⟩) l.length c, .int .i64 i, .slice (some ⟨vb, 0, none⟩) 1 1] w (Inserted base (l.take i ++ x :: l.drop i) (.slice (some ⟨g, 0, none⟩) l.length c) w) := by
  obtain ⟨i0, hi0, hz0, hz1, hz2⟩ := info_parts info93
  have hcn : c = l.length := by omega
  subst hcn
  have n1 : ((i : Int) == (l.length : Int)) = false := by rw [beq_eq_false_iff_ne]; omega
  have n2 : decide ((l.length : Int) < (l.length : Int) + 1) = true := decide_eq_true (by omega)
  have hkk : (l.length : Int) + 1 - (i : Int) = ((l.length + 1 - i : Nat) : Int) := by omega
  have hik : i + (l.length + 1 - i) = l.length + 1 := by omega
  have hti : (l.take i).length = i := by rw [List.length_take, Nat.min_eq_left (by omega)]
  have hold : (Builtin.firstCells i0.size i (.slice (some ⟨g, 0, none⟩) i l.length)).run Tryz.prog w.drew = .ok (prs (l.take i)).toArray w.drew := by
    rw [hz1]
    exact run_firstCells_some w.drew 2 i ⟨g, 0, none⟩ i l.length (prs (l.take i)) (by rw [prs_len, hti]) (fun j v hj => by
      have hj2 := (List.getElem?_eq_some_iff.1 hj).1
      rw [prs_len, hti] at hj2
      rw [add_mk, Nat.zero_add]
      show w.cell? _ = _
      rw [hg.cell, ← hj, ← prs_take, List.getElem?_take_of_lt hj2, ← ht, List.getElem?_take_of_lt (by omega), Array.getElem?_toList])
  obtain ⟨G, hG⟩ : ∃ G, G = grownCap w (l.length + 1) l.length 93 := ⟨_, rfl⟩
  obtain ⟨ROW, hROW⟩ : ∃ ROW : Array Value, ROW = (prs (l.take i)).toArray ++ Builtin.zeroCells (Value.agg #[.string ⟨#[]⟩, .string ⟨#[]⟩]).cells (l.length + 1 - i) ++ Builtin.zeroCells (Value.agg #[.string ⟨#[]⟩, .string ⟨#[]⟩]).cells (G - (l.length + 1)) := ⟨_, rfl⟩
  have hrz : ∀ ty, (Builtin.append_ #[94, 3] ty #[.slice (some ⟨g, 0, none⟩) i l.length, .int .i64 ((l.length : Int) + 1 - (i : Int))]).run Tryz.prog w =
      .ok (.slice (some ⟨w.heap.size, 0, none⟩) (l.length + 1) G) (w.drew.alloc (.cells ROW 93)) := fun ty => by
    have h := Lib.run_append_grow_zeros w 94 3 ty 93 i0 _ .i64 .i64 Tryz.underlying94 Tryz.underlying3 hi0 hz0 (some ⟨g, 0, none⟩) i l.length (prs (l.take i)) hold (l.length + 1 - i) (by omega) (by omega) (by omega) (by omega) (by rw [hz2]; omega) (by rw [hz2, hik]; exact growslice_fits (by omega) (by omega))
    rw [hik, ← hG, ← hROW] at h
    rw [hkk]
    exact h
  have hGn : l.length + 1 ≤ G := by rw [hG]; exact grownCap_ge w _ _ _
  have hGm : G ≤ maxLen := by rw [hG]; exact grownCap_le_maxLen w (l.length + 1) l.length 93 (by unfold maxLen; omega)
  have hG63 : G ≤ 9223372036854775807 := by unfold maxLen at hGm; omega
  have hRs : ROW.size = G * 2 := by
    rw [hROW, Array.size_append, Array.size_append, zc93, zc93, List.size_toArray, prs_len, hti]
    omega
  have hRt : ROW.toList.take (i * 2) = prs (l.take i) := by
    rw [hROW, Array.append_assoc, Array.toList_append, List.toList_toArray, List.take_append_of_le_length (by rw [prs_len, hti]; omega), List.take_of_length_le (by rw [prs_len, hti]; omega)]
  have hGi : ¬ (G = i) := by omega
  have hGim : ¬ (G = i + 1) := by omega
  have hglt := hg.lt
  have hvlt := hX.lt
  clear hkk hik hold hROW hG
  have hdl : (l.drop i).length = l.length - i := List.length_drop
  have hw1 : IntKind.i64.wrap ((i : Int) + 1) = (i : Int) + 1 := by rw [IntKind.wrap_i64]; omega
  have hb1 : (0 : Int) ≤ (i : Int) + 1 := by omega
  have hin : i ≤ l.length := by omega
  have htn : ((i : Int) + 1).toNat = i + 1 := by omega
  have hb3 : (i : Int) ≤ (l.length : Int) + 1 := by omega
  have hb4 : ¬ (l.length = i) := by omega
  have hb5 : (i : Int) + 1 ≤ (l.length : Int) + 1 := by omega
  go_enter Tryz.func84, Tryz.ntmps84
  go_wp2_with (first
    | (at_builtin; refine Lib.wpList_append_run _ rfl _ _ _ _ rfl _ _ rfl rfl _ _ (hrz _) ?_)
    | (refine wpList_copy_at rfl (.tmp 43) (.tmp 44) rfl w.heap.size (i * 2) _ _ rfl vb 0 _ _ rfl 1 [x] rfl ?c3 93 ROW ?c4 ?c5 ?c6 ?c7))
  case c3 => simp only [Nat.min_def]; split <;> omega
  case c4 => exact Blk.drew (Blk.new w 93 ROW)
  case c5 =>
    intro j hj
    have hX2 : Blk ((w.alloc (.cells ROW 93)).drew) vb 93 _ := (hX.alloc _).drew
    rw [hX2.cell, Nat.zero_add]
    match j, hj with
    | 0, _ => rfl
    | 1, _ => rfl
  case c6 => omega
  case c7 =>
    intro w2 hC2 hs2 hB2
    have hg2 : Blk w2 g 93 cur := (Blk.drew (hg.alloc _)).chg hC2 (by simp; omega)
    go_wp2
    refine wp_region_tail 8 (by kernel_rfl) (by kernel_rfl) ?_
    simp only [List.take_succ_cons, List.take_zero, List.drop_succ_cons, List.drop_zero]
    repeat still_step
    refine wpStill_nil ?_
    have hx1 : ∀ j, j < (l.length - i) * 2 → w2.drew.cell? ⟨g, i * 2 + j, none⟩ = (prs (l.drop i))[j]? := fun j hj => by
      show w2.cell? _ = _
      rw [hg2.cell, ← prs_drop, List.getElem?_drop, ← ht, List.getElem?_take_of_lt (by omega), Array.getElem?_toList]
    have hrl : ROW.toList.length = G * 2 := by rw [Array.length_toList, hRs]
    have hq : (splice ROW.toList (i * 2) (prs [x])).length = ROW.toList.length := length_splice _ _ _ (by rw [prs_one]; simp only [List.length_cons, List.length_nil]; omega)
    refine wpList_copy_at rfl (.tmp 50) (.tmp 53) rfl w.heap.size ((i + 1) * 2) _ _ rfl g (i * 2) _ _ rfl (l.length - i) (l.drop i) hdl ?d1 93 _ hB2.drew hx1 ?d2 ?d3
    case d1 => simp only [Nat.min_def]; split <;> omega
    case d2 => rw [List.size_toArray, hq]; omega
    case d3 =>
      intro w3 hC3 hs3 hB3
      go_wp2
      go_ret
      have hC : Chg [g] w w3 := ((((Chg.refl [g] w).alloc _).drew).on hC2 (fun i hi => .inr (by simp at hi; omega))).drew.on hC3 (fun i hi => .inr (by simp at hi; omega))
      refine ⟨_, rfl, ?_, hC⟩
      have hl2 : (l.take i ++ x :: l.drop i).length = l.length + 1 := by simp; omega
      have hq2 : (splice (splice ROW.toList (i * 2) (prs [x])) ((i + 1) * 2) (prs (l.drop i))).length = ROW.toList.length := by
        rw [length_splice _ _ _ (by rw [hq, prs_len, hdl]; omega), hq]
      rw [List.toList_toArray] at hB3
      rw [hl2]
      refine ⟨by rw [prs_len, hl2], .inr ⟨w.heap.size, G, _, rfl, hbw, hB3, hGn, hGm, by rw [List.size_toArray, hq2, hrl], ?_⟩⟩
      rw [List.toList_toArray, prs_one]
      exact splice_ins2 l x i (by omega) ROW.toList (by omega) hRt

theorem insert_w (base : Nat) (l : List Pr) (x : Pr) (v : Value) (i : Nat) (w : World) (hown : w.ownsRow base 93 2 v l.length (prs l)) (hb : base ≤ w.heap.size) (hi : i ≤ l.length) (hlen : l.length ≤ 1000) (vb : Nat) (hX : Blk w vb 93 #[.string x.1, .string x.2]) (hne : ∀ k, v.ownBlock = some k → vb ≠ k) :
    Calls Tryz.prog 84 #[v, .int .i64 i, .slice (some ⟨vb, 0, none⟩) 1 1] w (Inserted base (l.take i ++ x :: l.drop i) v w) := by
  rcases Nat.lt_or_ge i l.length with h | h
  · obtain ⟨_, h2⟩ := hown
    rcases h2 with ⟨_, h0⟩ | ⟨g, c, cur, rfl, hbg, hg, hn, hm, hz, ht⟩
    · omega
    · rcases Nat.lt_or_ge c (l.length + 1) with hr | hr
      · exact insert_grow base l x g c i cur w hg hb hn ht h hlen vb hX hr
      · exact insert_mid base l x g c i cur w hg hbg hn hm hz ht h hlen vb hX (hne g rfl) hr
  · obtain rfl : i = l.length := by omega
    rw [List.take_length, List.drop_length]
    exact insert_end base l x v w hown hb hlen vb hX

end Go.Proofs.YtpcaadipejnllaaGreatDoor

/- A pair deleted from a slice of pairs; two slices joined. -/
set_option linter.unusedVariables false
set_option linter.unusedSimpArgs false
namespace Go.Proofs.YtpcaadipejnllaaGreatDoor
open Go.RowKit

theorem zero93 (w : World) : (zeroValue 93).run Tryz.prog w = .ok (.agg #[.string ⟨#[]⟩, .string ⟨#[]⟩]) w := by
  obtain ⟨i0, hi, hz0, hz1, hz2⟩ := info_parts info93
  simp [zeroValue, typeInfo, hi, hz0, Sem.run_bind]

theorem wpList_clear_pairs {ops : Array Oper} {rest : List Oper} {o : Oper} {a : Act} {w : World} {Q : Exit → Act → World → Prop} (hgd : o.guard = none) (s : Operand) (ho : o.op = .call { callee := .builtin .clear, args := #[s], argTypes := #[94] }) (g off n c : Nat)
    (hs : a.eval s = .slice (some ⟨g, off, none⟩) n c) (t : TypeId) (cur : Array Value) (hB : Blk w g t cur) (hn : n = 1) (hf : off + 2 ≤ cur.size)
    (h : ∀ w', Chg [g] w w' → Blk w' g t (splice cur.toList off [.string ⟨#[]⟩, .string ⟨#[]⟩]).toArray → wpList Tryz.prog ops Q rest (a.put o.dst (.tuple #[])) w') : wpList Tryz.prog ops Q (o :: rest) a w := by
  subst hn
  refine wpList_plain hgd fun K hK => ?_
  have hst := run_storeCells_at Tryz.prog g off t [.string ⟨#[]⟩, .string ⟨#[]⟩] 0 cur w hB (by simpa using hf) (by simp [Value.oneCell'])
  have e : cur.toList.take (off + 0) ++ [Value.string ⟨#[]⟩, .string ⟨#[]⟩] ++ cur.toList.drop (off + 0 + [Value.string ⟨#[]⟩, .string ⟨#[]⟩].length) = splice cur.toList off [.string ⟨#[]⟩, .string ⟨#[]⟩] := by
    simp [splice]
  rw [e] at hst
  have hrun : (Builtin.clear_ #[94] o.type #[.slice (some ⟨g, off, none⟩) 1 c]).run Tryz.prog w = .ok (.tuple #[]) (w.setRow g (splice cur.toList off [.string ⟨#[]⟩, .string ⟨#[]⟩]).toArray) := by
    have hz : (Builtin.zeroCells (Value.agg #[.string ⟨#[]⟩, .string ⟨#[]⟩]).cells 1).toList = [.string ⟨#[]⟩, .string ⟨#[]⟩] := by
      simp [Builtin.zeroCells, Value.cells]
      rfl
    simp [Builtin.clear_, run_underlying Tryz.underlying94, zero93, hz, hst]
  obtain ⟨r1, r2, r3⟩ := blk_setRow hB (splice cur.toList off [.string ⟨#[]⟩, .string ⟨#[]⟩]).toArray
  unfold Oper.wp
  simp [execOp, ho, resolve, invoke, builtin, hs, hrun, Result.andThen]
  exact hK _ _ (h _ r2 r1)

theorem drop_pairs (l : List Pr) (i : Nat) (hi : i < l.length) : (l.take i ++ l.drop (i + 1)).length = l.length - 1 := by simp; omega

set_option maxRecDepth 100000 in
set_option maxHeartbeats 1000000 in
theorem delete_w (base : Nat) (l : List Pr) (v : Value) (i : Nat) (w : World) (hown : w.ownsRow base 93 2 v l.length (prs l)) (hi : i < l.length) (hlen : l.length ≤ 1000) :
    Calls Tryz.prog 121 #[v, .int .i64 i, .int .i64 ((i : Int) + 1)] w (Inserted base (l.take i ++ l.drop (i + 1)) v w) := by
  obtain ⟨_, h2⟩ := hown
  rcases h2 with ⟨_, h0⟩ | ⟨g, c, cur, rfl, hbg, hg', hn, hm, hz, ht⟩
  · omega
  have hg : Blk w g 93 cur := hg'
  have hc3 : c ≤ 9223372036854775807 := by unfold maxLen at hm; omega
  have n1 : ((i : Int) == (i : Int) + 1) = false := by rw [beq_eq_false_iff_ne]; omega
  have hw1 : IntKind.i64.wrap ((i : Int) + 1) = (i : Int) + 1 := by rw [IntKind.wrap_i64]; omega
  have hb1 : (0 : Int) ≤ (i : Int) + 1 := by omega
  have hin : i ≤ l.length := by omega
  have htn : ((i : Int) + 1).toNat = i + 1 := by omega
  have hb5 : (i : Int) + 1 ≤ (l.length : Int) := by omega
  have hb6 : (i : Int) ≤ (c : Int) := by omega
  have hb7 : i ≤ c := by omega
  have hb8 : i + 1 ≤ l.length := by omega
  have hown : ∀ W, Blk W g 93 cur → W.ownsRow base 93 2 (.slice (some ⟨g, 0, none⟩) i c) i (prs (l.take i)) := fun W hW =>
    ⟨by rw [prs_len, List.length_take, Nat.min_eq_left hin], .inr ⟨g, c, cur, rfl, hbg, hW, by omega, hm, hz, by rw [← prs_take, ← ht, List.take_take, Nat.min_eq_left (by omega)]⟩⟩
  have hld : (prs (l.drop (i + 1))).length = (l.length - (i + 1)) * 2 := by rw [prs_len, List.length_drop]
  have hpl := drop_pairs l i hi
  obtain ⟨i0, hi0, hz0, hz1, hz2⟩ := info_parts info93
  have hx1 : ∀ W, Blk W g 93 cur → ∀ j u, (prs (l.drop (i + 1)))[j]? = some u → W.cell? (({ block := g, off := (i + 1) * 2 } : Addr).add j) = some u := fun W hW j u hj => by
    have := (List.getElem?_eq_some_iff.1 hj).1
    rw [add_mk, hW.cell, ← hj, ← prs_drop, List.getElem?_drop, ← ht, List.getElem?_take_of_lt (by omega), Array.getElem?_toList]
  have hfin : ∀ (w2 : World) (o : Nat) , w2.ownsRow base 93 2 (.slice (some ⟨g, 0, none⟩) (l.length - 1) c) (l.length - 1) (prs (l.take i ++ l.drop (i + 1))) → ∃ cur2, Blk w2 g 93 cur2 ∧ cur2.size = c * 2 ∧ cur2.toList.take ((l.length - 1) * 2) = prs (l.take i ++ l.drop (i + 1)) := fun w2 _ h => by
    obtain ⟨_, h2⟩ := h
    rcases h2 with ⟨h2, _⟩ | ⟨g', c', cur', e, _, q1, _, _, q2, q3⟩
    · cases h2
    · injection e with e1 e2 e3
      injection e1 with e1
      injection e1 with e1
      subst e1 e3
      exact ⟨cur', q1, q2, q3⟩
  have hend : ∀ (w3 : World) (cur2 : Array Value), cur2.size = c * 2 → cur2.toList.take ((l.length - 1) * 2) = prs (l.take i ++ l.drop (i + 1)) → Blk w3 g 93 (splice cur2.toList ((l.length - 1) * 2) [.string ⟨#[]⟩, .string ⟨#[]⟩]).toArray → Chg [g] w w3 →
      Inserted base (l.take i ++ l.drop (i + 1)) (.slice (some ⟨g, 0, none⟩) l.length c) w (.returned (.slice (some ⟨g, 0, none⟩) (l.length - 1) c)) w3 := fun w3 cur2 q1 q2 q3 q4 => by
    have hcl : cur2.toList.length = c * 2 := by rw [Array.length_toList, q1]
    refine ⟨_, rfl, ?_, q4⟩
    rw [hpl]
    refine ⟨by rw [prs_len, hpl], .inr ⟨g, c, _, rfl, hbg, q3, by omega, hm, ?_, ?_⟩⟩
    · rw [List.size_toArray, length_splice _ _ _ (by simp only [List.length_cons, List.length_nil]; omega), hcl]
    · rw [List.toList_toArray]
      unfold splice
      rw [List.take_append_of_le_length (by rw [List.length_take]; omega), List.take_take, Nat.min_self, q2]
  by_cases hcap : c = i + 1
  · have hli : l.length = i + 1 := by omega
    have hlz : l.length - (i + 1) = 0 := by omega
    have hnz : prs (l.drop (i + 1)) = [] := List.eq_nil_of_length_eq_zero (by omega)
    subst hcap
    have hb9 : (i : Int) ≤ (i : Int) + 1 := by omega
    have hb10 : i ≤ i + 1 := by omega
    go_enter Tryz.func121, Tryz.ntmps121
    go_wp2
    refine wp_region_tail 6 (by kernel_rfl) (by kernel_rfl) ?_
    simp only [List.take_succ_cons, List.take_zero, List.drop_succ_cons, List.drop_zero]
    repeat still_step

    refine wpStill_nil ?_
    refine wpList_append_fits _ rfl (.tmp 22) (.tmp 25) 94 rfl base 93 i0 2 Tryz.underlying94 hi0 hz1 g i (i + 1) (prs (l.take i)) rfl (hown _ hg.drew) ⟨g, 0, none⟩ 0 0 [] (by simp [Act.eval]) rfl (by simp) (by simp) (by omega) ?_
    rw [show i + 0 = l.length - 1 by omega, ← hnz, ← prs_app]
    intro w2 hown2 hg2
    obtain ⟨cur2, q1, q2, q3⟩ := hfin w2 0 hown2
    have hC2 : Chg [g] w w2 := ((Chg.refl [g] w).drew).trans (Chg.of_grown hg2)
    have e1 : l.length - 1 = i := by omega
    rw [e1] at hend q3
    clear e1
    go_wp2_with (refine wpList_clear_pairs rfl (.tmp 31) rfl g (i * 2) _ _ rfl 93 cur2 q1 ?c1 ?c2 ?c3)
    case c1 => omega
    case c2 => omega
    case c3 =>
      intro w3 hC3 hB3
      go_wp2
      go_ret
      exact hend w3 cur2 q2 q3 hB3 (hC2.trans hC3)
  · go_enter Tryz.func121, Tryz.ntmps121
    go_wp2
    refine wp_region_tail 6 (by kernel_rfl) (by kernel_rfl) ?_
    simp only [List.take_succ_cons, List.take_zero, List.drop_succ_cons, List.drop_zero]
    repeat still_step

    refine wpStill_nil ?_
    refine wpList_append_fits _ rfl (.tmp 22) (.tmp 25) 94 rfl base 93 i0 2 Tryz.underlying94 hi0 hz1 g i c (prs (l.take i)) rfl (hown _ hg.drew) ⟨g, (i + 1) * 2, none⟩ (l.length - (i + 1)) _ (prs (l.drop (i + 1))) rfl hld (hx1 _ hg.drew) (prs_one' _) (by omega) ?_
    rw [show i + (l.length - (i + 1)) = l.length - 1 by omega, ← prs_app]
    intro w2 hown2 hg2
    obtain ⟨cur2, q1, q2, q3⟩ := hfin w2 0 hown2
    have hC2 : Chg [g] w w2 := ((Chg.refl [g] w).drew).trans (Chg.of_grown hg2)
    go_wp2_with (refine wpList_clear_pairs rfl (.tmp 31) rfl g ((l.length - 1) * 2) _ _ rfl 93 cur2 q1 ?c1 ?c2 ?c3)
    case c1 => omega
    case c2 => omega
    case c3 =>
      intro w3 hC3 hB3
      go_wp2
      go_ret
      exact hend w3 cur2 q2 q3 hB3 (hC2.trans hC3)

end Go.Proofs.YtpcaadipejnllaaGreatDoor
