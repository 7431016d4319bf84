/- The tables of a list. -/
import Derived.Test.YtpcaadipejnllaaGreatDoorPart23
import Derived.Test.YtpcaadipejnllaaGreatDoorPart24
import Derived.Test.YtpcaadipejnllaaGreatDoorPart22
import Derived.Test.YtpcaadipejnllaaGreatDoorPart26
import Derived.Test.YtpcaadipejnllaaGreatDoorPart12
import Derived.Test.YtpcaadipejnllaaGreatDoorPart16

set_option linter.unusedVariables false
set_option linter.unusedSimpArgs false
namespace Go.Proofs.YtpcaadipejnllaaGreatDoor
open Go.RowKit

theorem BaseA.len2 {M : List Per} {c : List Pr} (h : BaseA M c) : c.length ≤ M.length + M.length := by
  have := nodup_le (l := c) (m := M.map prP ++ M.map prE) h.srt.nodup (fun x hx => by
    rcases (h.mem x).1 hx with ⟨p, hp, rfl⟩ | ⟨p, hp, rfl⟩
    · exact List.mem_append.2 (.inl (List.mem_map.2 ⟨p, hp, rfl⟩))
    · exact List.mem_append.2 (.inr (List.mem_map.2 ⟨p, hp, rfl⟩)))
  simpa using this
theorem BaseB.len2 {N : List Per} {c : List Pr} (h : BaseB N c) : c.length ≤ N.length := by
  have := nodup_le (l := c) (m := N.map prT) h.srt.nodup (fun x hx => by
    obtain ⟨p, hp, rfl⟩ := (h.mem x).1 hx
    exact List.mem_map.2 ⟨p, hp, rfl⟩)
  simpa using this
/-- A list of people. -/
def PerS (w : World) (v : Value) (ps : List Per) : Prop := ∃ A c, v = .slice A ps.length c ∧ ∀ k p, ps[k]? = some p → ∃ s o, A = some ⟨s, o, none⟩ ∧ s < w.heap.size ∧ w.rangeAt s (o + k * 3) (perC p).toList
theorem prP_pos (p : Per) : 0 < (prP p).2.size := by
  have h2 : (prP p).2.size = (prP p).2.data.toList.length := by simp
  rw [h2, prP_val, List.length_append, enc_i]
  split <;> simp <;> omega
theorem prT_pos (p : Per) : 0 < (prT p).2.size := by
  have h2 : (prT p).2.size = (prT p).2.data.toList.length := by simp
  rw [h2, prT_val]
  simp [enc]
/-- The people in the order of the tree. -/
theorem order_p {M N : List Per} {c LA : List Pr} (h : TreeL M N c) (hA : BaseA M LA) (hM : Ppl M) : ∃ R : List Per, sel 1 c = R.map prP ∧ sel 1 LA = R.map prP ∧ (∀ p ∈ R, p ∈ M) ∧ R.length = M.length := by
  obtain ⟨R, hR, hm⟩ := as_map (f := prP) (Q := fun p => p ∈ M) (sel 1 c) (fun x hx => by
    obtain ⟨p, hp, e⟩ := (h.sel1 x).1 hx
    exact ⟨p, hp, e⟩)
  have he : sel 1 LA = sel 1 c := (hA.srt.sel 1).eq (h.srt.sel 1) (fun x => by rw [hA.sel1, h.sel1])
  refine ⟨R, hR, he.trans hR, hm, ?_⟩
  have := (hA.lens hM).1
  rw [he, hR, List.length_map] at this
  exact this
theorem order_t {M N : List Per} {c LB : List Pr} (h : TreeL M N c) (hB : BaseB N LB) : ∃ R : List Per, sel 2 c = R.map prT ∧ sel 2 LB = R.map prT ∧ (∀ p ∈ R, p ∈ N) ∧ R.length ≤ N.length := by
  obtain ⟨R, hR, hm⟩ := as_map (f := prT) (Q := fun p => p ∈ N) (sel 2 c) (fun x hx => by
    obtain ⟨p, hp, e⟩ := (h.sel2 x).1 hx
    exact ⟨p, hp, e⟩)
  have he : sel 2 LB = sel 2 c := (hB.srt.sel 2).eq (h.srt.sel 2) (fun x => by rw [hB.sel2, h.sel2])
  refine ⟨R, hR, he.trans hR, hm, ?_⟩
  have h1 := hB.len2
  have h2 : (sel 2 LB).length ≤ LB.length := List.length_filter_le _ _
  rw [he, hR, List.length_map] at h2
  omega
theorem order_e {M : List Per} {LA : List Pr} (hA : BaseA M LA) (hM : Ppl M) : ∃ R : List Per, sel 3 LA = R.map prE ∧ (∀ p ∈ R, p ∈ M) ∧ R.length = M.length ∧ (∀ (i : Nat) (p q : Per), R[i]? = some p → R[i + 1]? = some q → p.sc ≤ q.sc) := by
  obtain ⟨R, hR, hm⟩ := as_map (f := prE) (Q := fun p => p ∈ M) (sel 3 LA) (fun x hx => by
    obtain ⟨p, hp, e⟩ := (hA.sel3 x).1 hx
    exact ⟨p, hp, e⟩)
  refine ⟨R, hR, hm, ?_, fun i p q hp hq => ?_⟩
  · have := (hA.lens hM).2
    rw [hR, List.length_map] at this
    exact this
  · refine prE_le (hM.ok p (hm p (List.mem_of_getElem? hp))) (hM.ok q (hm q (List.mem_of_getElem? hq))) ((hA.srt.sel 3) i (i + 1) (prE p) (prE q) (by omega) ?_ ?_)
    · rw [hR, List.getElem?_map, hp]; rfl
    · rw [hR, List.getElem?_map, hq]; rfl

theorem TreeS.far {w w' : World} {tb x : Nat} {c : List Pr} {cs : Array Value} (h : TreeS w tb c) (hx : Blk w x 91 cs) (hC : Chg [x] w w') : TreeS w' tb c := by
  obtain ⟨ba, bm, bw, fr, rt, pgs, ls, fl, h1, h2, h3, h4⟩ := h
  obtain ⟨ws, a1, a2⟩ := id h2
  obtain ⟨_, _, a3, a4, _⟩ := a1.m.hd
  have n0 := h1.ne_ hx (by decide)
  have n1 := a1.a.ne_ hx (by decide)
  have n2 := a3.ne_ hx (by decide)
  have n3 := a4.ne_ hx (by decide)
  exact ⟨ba, bm, bw, fr, rt, pgs, ls, fl, h1.chg hC (by simpa using n0), h2.chg hC (by simpa using n1) (by simpa using n2) (by simpa using n3), h3, h4⟩

/-- The tree and the two bases when a part of the list is in. -/
structure Tab (w : World) (tb bp bt cb cc : Nat) (vkp vrp vx vkt vrt : Value) (M N : List Per) (k : Nat) (c LA LB : List Pr) : Prop where
  t : TreeS w tb c
  tl : TreeL M N c
  ld : load c ≤ 11 * k
  p : ∃ mp basep vp, BasS w bp mp basep tP vkp vrp vx vp LA
  x : IxS w vx cb cc
  a : BaseA M LA
  b : ∃ mt baset vt, BasS w bt mt baset tT vkt vrt (.slice none 0 0) vt LB
  bl : BaseB N LB
  m : Ppl M
  n : Twn N
  ne : bp ≠ bt
theorem Tab.ext {w w' : World} {tb bp bt cb cc k : Nat} {vkp vrp vx vkt vrt : Value} {M N : List Per} {c LA LB : List Pr} (h : Tab w tb bp bt cb cc vkp vrp vx vkt vrt M N k c LA LB) (hC : Chg [] w w') : Tab w' tb bp bt cb cc vkp vrp vx vkt vrt M N k c LA LB := by
  obtain ⟨h1, h2, h3, ⟨a1, a2, a3, h4⟩, h5, h6, ⟨b1, b2, b3, h7⟩, h8, h9, h10, h11⟩ := h
  exact ⟨h1.ext hC, h2, h3, ⟨a1, a2, a3, h4.ext hC⟩, h5.ext hC, h6, ⟨b1, b2, b3, h7.ext hC⟩, h8, h9, h10, h11⟩

set_option maxRecDepth 100000 in
set_option maxHeartbeats 4000000 in
theorem tables_w (ps : List Per) (hok : ∀ p ∈ ps, p.Ok) (hn : ps.length ≤ 24) (v : Value) (w : World) (hG : Gv w) (hL : PerS w v ps) :
    Calls Tryz.prog 4 #[v] w fun e w' => e = .returned (.bool true) ∧ Chg [] w w' := by
  obtain ⟨A, c, rfl, hL⟩ := hL
  go_enter Tryz.func4, Tryz.ntmps4
  go_wp2_with (first
    | (go_at_call 5; refine (tnew_w _).mono ?_; rintro e w1 ⟨tb, rfl, htb, hT1, hC1⟩)
    | (go_at_call 7; refine (people_w _).mono ?_; rintro e w2 ⟨vk, vr, rfl, hk, hr, hC2⟩)
    | (have _h0 := hkT; go_at_call 6; go_loud (refine (new_t vkT vrT _ (KS.own hkT (by decide)) (KS.own hrT (by decide))).mono ?_); rintro e w5 ⟨bt, mt, v1T, v2T, rfl, hbt, hBT, hC5⟩)
    | (go_at_call 6; go_loud (refine (new_p vk vr (w2.heap.size + 1) w2.heap.size _ (((KS.own hk (by decide)).alloc _).alloc _) (((KS.own hr (by decide)).alloc _).alloc _) (Blk.newEq (by simp)) (((Blk.new w2 3 #[.int .i64 2]).alloc _).cell 0)).mono ?_); rintro e w3 ⟨bp, mp, v1P, v2P, vx, cb, cc, rfl, hbp, hBP, hIx, hC3⟩)
    | (go_at_call 8; refine (towns_w _).mono ?_; rintro e w4 ⟨vkT, vrT, rfl, hkT, hrT, hC4⟩))
  have hC12 := hC1.trans hC2
  have hC23 : Chg [] w2 w3 := (((Chg.refl [] w2).alloc _).alloc _).trans hC3
  have hC35 := (hC3.trans hC4).trans hC5
  have hTab : Tab w5 tb bp bt cb cc v1P v2P vx v1T v2T [] [] 0 [] [] [] := ⟨hT1.ext (((hC2.trans hC23).trans hC4).trans hC5), TreeL.nil, by simp [load], ⟨_, _, _, (hBP.ext hC4).ext hC5⟩, (hIx.ext hC4).ext hC5, BaseA.nil, ⟨_, _, _, hBT⟩, BaseB.nil, ⟨by simp, by simp⟩, ⟨by simp, by simp⟩, by have := hBP.b.lt; have := hC4.size; omega⟩
  have hCw5 : Chg [] w w5 := ((hC12.trans hC23).trans hC4).trans hC5
  have hG5 := hG.chg hCw5 (by simp)
  go_loopw [9] (fun i wr => ∃ (k : Nat) (M N : List Per) (c LA LB : List Pr), k ≤ ps.length ∧ i = .int .i64 k ∧ Tab wr tb bp bt cb cc v1P v2P vx v1T v2T M N k c LA LB ∧ M.length ≤ k ∧ N.length ≤ k ∧ (∀ q ∈ M, q ∈ ps) ∧ (∀ q ∈ N, q ∈ ps) ∧ Chg [] w wr) (fun i _ => ps.length - (intOf i).toNat)
  case atStart => exact ⟨0, [], [], [], [], [], by omega, rfl, hTab, by simp, by simp, by simp, by simp, hCw5⟩
  case round =>
    obtain ⟨k, M, N, c1, LA, LB, hk, rfl, hSx, hM, hN, hMp, hNp, hC⟩ := hrel
    by_cases hk2 : k < ps.length
    · obtain ⟨p, hp⟩ : ∃ p, ps[k]? = some p := ⟨_, List.getElem?_eq_getElem hk2⟩
      have hpm := List.mem_of_getElem? hp
      have hpo := hok p hpm
      obtain ⟨s, o, rfl, hs, hrg⟩ := hL k p hp
      have hS : ∀ W, Chg [] wr W → W.rangeAt s (o + k * 3) (perC p).toList := fun W hW j u hj => by rw [(hC.trans hW).cell hs (by simp)]; exact hrg j u hj
      have Hrg := Lib.hid (show ∀ W, Chg [] w W → W.rangeAt s (o + k * 3) (perC p).toList from fun W hW j u hj => by rw [hW.cell hs (by simp)]; exact hrg j u hj)
      have hi26 : (Tryz.prog.info? 26).map (·.size) = some (perC p).toList.length := by show _ = some 3; kernel_rfl
      go_upto_region 9 with fail
      have hS0 := hSx
      try simp only [Act.put, List.setIfInBounds_toArray, List.set_cons_zero, List.set_cons_succ]
      refine wp_region_K (S := fun W => W.rangeAt s (o + k * 3) (perC p).toList) 99 (by kernel_rfl) (hS _ ((Chg.refl [] wr).drew)) (fun hH => ?_)
      refine wpAnyK_take (i := 1) (v := .slice (some ⟨s, o, none⟩) ps.length c) rfl (by kernel_rfl) (by kernel_rfl) (by kernel_rfl) (by kernel_rfl) (by decide) (fun _ _ _ h => h) (Or.inl ⟨by rfl, fun w' hw' => by go_simp⟩) hH ?_
      try simp only [List.getElem_toArray, List.getElem_cons_succ, List.getElem_cons_zero, Act.put, List.setIfInBounds_toArray, List.set_cons_zero, List.set_cons_succ]
      refine wpAnyK_take (i := 2) (v := .int .i64 k) rfl (by kernel_rfl) (by kernel_rfl) (by kernel_rfl) (by kernel_rfl) (by decide) (fun _ _ _ h => h) (Or.inl ⟨by rfl, fun w' hw' => by go_simp⟩) hH ?_
      try simp only [List.getElem_toArray, List.getElem_cons_succ, List.getElem_cons_zero, Act.put, List.setIfInBounds_toArray, List.set_cons_zero, List.set_cons_succ]
      refine wpAnyK_take (i := 3) (v := .pointer (some ⟨s, o + k * 3, none⟩)) rfl (by kernel_rfl) (by kernel_rfl) (by kernel_rfl) (by kernel_rfl) (by decide) (fun _ _ _ h => h) (Or.inl ⟨by rfl, fun w' hw' => by go_simp⟩) hH ?_
      try simp only [List.getElem_toArray, List.getElem_cons_succ, List.getElem_cons_zero, Act.put, List.setIfInBounds_toArray, List.set_cons_zero, List.set_cons_succ]
      refine wpAnyK_take (i := 4) rfl (by kernel_rfl) (by kernel_rfl) (by kernel_rfl) (by kernel_rfl) (by decide) (fun _ _ _ h => h) (yieldsIf_load_mid (by rfl) _ _ rfl (s) (o + k * 3) rfl ((perC p).toList) _ (fun w' hw' => hw') Tryz.underlying26 rfl hi26) hH ?_
      try simp only [List.getElem_toArray, List.getElem_cons_succ, List.getElem_cons_zero, Act.put, List.setIfInBounds_toArray, List.set_cons_zero, List.set_cons_succ]
      rw [Array.toArray_toList]
      refine wpAnyK_take (i := 8) (v := .slice (some ⟨s, o, none⟩) ps.length c) rfl (by kernel_rfl) (by kernel_rfl) (by kernel_rfl) (by kernel_rfl) (by decide) (fun _ _ _ h => h) (Or.inl ⟨by rfl, fun w' hw' => by go_simp⟩) hH ?_
      try simp only [List.getElem_toArray, List.getElem_cons_succ, List.getElem_cons_zero, Act.put, List.setIfInBounds_toArray, List.set_cons_zero, List.set_cons_succ]
      refine wpAnyK_take (i := 9) (v := .int .i64 k) rfl (by kernel_rfl) (by kernel_rfl) (by kernel_rfl) (by kernel_rfl) (by decide) (fun _ _ _ h => h) (Or.inl ⟨by rfl, fun w' hw' => by go_simp⟩) hH ?_
      try simp only [List.getElem_toArray, List.getElem_cons_succ, List.getElem_cons_zero, Act.put, List.setIfInBounds_toArray, List.set_cons_zero, List.set_cons_succ]
      refine wpAnyK_take (i := 10) (v := .pointer (some ⟨s, o + k * 3, none⟩)) rfl (by kernel_rfl) (by kernel_rfl) (by kernel_rfl) (by kernel_rfl) (by decide) (fun _ _ _ h => h) (Or.inl ⟨by rfl, fun w' hw' => by go_simp⟩) hH ?_
      try simp only [List.getElem_toArray, List.getElem_cons_succ, List.getElem_cons_zero, Act.put, List.setIfInBounds_toArray, List.set_cons_zero, List.set_cons_succ]
      refine wpAnyK_take (i := 11) rfl (by kernel_rfl) (by kernel_rfl) (by kernel_rfl) (by kernel_rfl) (by decide) (fun _ _ _ h => h) (yieldsIf_load_mid (by rfl) _ _ rfl (s) (o + k * 3) rfl ((perC p).toList) _ (fun w' hw' => hw') Tryz.underlying26 rfl hi26) hH ?_
      try simp only [List.getElem_toArray, List.getElem_cons_succ, List.getElem_cons_zero, Act.put, List.setIfInBounds_toArray, List.set_cons_zero, List.set_cons_succ]
      rw [Array.toArray_toList]
      refine wpAnyK_take (i := 16) (v := .int .i64 0) rfl (by kernel_rfl) (by kernel_rfl) (by kernel_rfl) (by kernel_rfl) (by decide) (fun _ _ _ h => h) (Or.inl ⟨by rfl, fun w' hw' => by go_simp⟩) hH ?_
      try simp only [List.getElem_toArray, List.getElem_cons_succ, List.getElem_cons_zero, Act.put, List.setIfInBounds_toArray, List.set_cons_zero, List.set_cons_succ]
      refine wpAnyK_ready (rs := [0]) (by kernel_rfl) (by simp) ?_
      refine AllReadyK.cons rfl (fun K hK => ?_) AllReadyK.nil
      go_simp
      refine (people_w _).mono ?_
      rintro e W1 ⟨vk1, vr1, rfl, hk1, hr1, hD1⟩
      obtain ⟨Ak, ck, rfl, _, _⟩ := (Sl.own hk1).form
      obtain ⟨Ar, cr, rfl, _, _⟩ := (Sl.own hr1).form
      rw [show tbV tP (.slice Ak 1 ck) (.slice Ar 2 cr) = #[.int .i64 1, .slice Ak 1 ck, .slice Ar 2 cr] from rfl]
      have hE1 := ((Chg.refl [] wr).drew).trans hD1
      refine hK.out _ _ (hS _ hE1) (fun hH => ?_)
      clear hK K
      try simp only [List.getElem_toArray, List.getElem_cons_succ, List.getElem_cons_zero, Act.put, List.setIfInBounds_toArray, List.set_cons_zero, List.set_cons_succ]
      refine wpAnyK_ready (rs := [5]) (by kernel_rfl) (by simp) ?_
      refine AllReadyK.cons rfl (fun K hK => ?_) AllReadyK.nil
      go_simp
      refine (row_p p _ hpo).mono ?_
      rintro e W2 ⟨u1, rfl, hu1, hD2⟩
      obtain ⟨Au, cu, rfl, _, _⟩ := (Sl.own hu1).form
      have hE2 := hE1.trans hD2
      refine hK.out _ _ (hS _ hE2) (fun hH => ?_)
      clear hK K
      try simp only [List.getElem_toArray, List.getElem_cons_succ, List.getElem_cons_zero, Act.put, List.setIfInBounds_toArray, List.set_cons_zero, List.set_cons_succ]
      refine wpAnyK_take (i := 6) (v := .agg #[.int .i64 1, .slice Ak 1 ck, .slice Ar 2 cr, .slice Au 3 cu]) rfl (by kernel_rfl) (by kernel_rfl) (by kernel_rfl) (by kernel_rfl) (by decide) (fun _ _ _ h => h) (Or.inl ⟨by rfl, fun w' hw' => by go_simp⟩) hH ?_
      try simp only [List.getElem_toArray, List.getElem_cons_succ, List.getElem_cons_zero, Act.put, List.setIfInBounds_toArray, List.set_cons_zero, List.set_cons_succ]
      refine wpAnyK_ready (rs := [7]) (by kernel_rfl) (by simp) ?_
      refine AllReadyK.cons rfl (fun K hK => ?_) AllReadyK.nil
      go_simp
      refine (towns_w _).mono ?_
      rintro e W3 ⟨vk2, vr2, rfl, hk2, hr2, hD3⟩
      obtain ⟨Bk, dk, rfl, _, _⟩ := (Sl.own hk2).form
      obtain ⟨Br, dr, rfl, _, _⟩ := (Sl.own hr2).form
      rw [show tbV tT (.slice Bk 1 dk) (.slice Br 1 dr) = #[.int .i64 2, .slice Bk 1 dk, .slice Br 1 dr] from rfl]
      have hE3 := hE2.trans hD3
      refine hK.out _ _ (hS _ hE3) (fun hH => ?_)
      clear hK K
      try simp only [List.getElem_toArray, List.getElem_cons_succ, List.getElem_cons_zero, Act.put, List.setIfInBounds_toArray, List.set_cons_zero, List.set_cons_succ]
      refine wpAnyK_ready (rs := [12]) (by kernel_rfl) (by simp) ?_
      refine AllReadyK.cons rfl (fun K hK => ?_) AllReadyK.nil
      go_simp
      refine (row_t p _ hpo).mono ?_
      rintro e W4 ⟨u2, rfl, hu2, hD4⟩
      obtain ⟨Bu, du, rfl, _, _⟩ := (Sl.own hu2).form
      have hE4 := hE3.trans hD4
      refine hK.out _ _ (hS _ hE4) (fun hH => ?_)
      clear hK K
      try simp only [List.getElem_toArray, List.getElem_cons_succ, List.getElem_cons_zero, Act.put, List.setIfInBounds_toArray, List.set_cons_zero, List.set_cons_succ]
      refine wpAnyK_take (i := 13) (v := .agg #[.int .i64 2, .slice Bk 1 dk, .slice Br 1 dr, .slice Bu 2 du]) rfl (by kernel_rfl) (by kernel_rfl) (by kernel_rfl) (by kernel_rfl) (by decide) (fun _ _ _ h => h) (Or.inl ⟨by rfl, fun w' hw' => by go_simp⟩) hH ?_
      try simp only [List.getElem_toArray, List.getElem_cons_succ, List.getElem_cons_zero, Act.put, List.setIfInBounds_toArray, List.set_cons_zero, List.set_cons_succ]
      refine wpAnyK_ready (rs := [14]) (by kernel_rfl) (by simp) ?_
      refine AllReadyK.cons rfl (fun K hK => ?_) AllReadyK.nil
      go_simp
      refine hK.out _ _ (hS _ (hE4.alloc _)) (fun hH => ?_)
      clear hK K
      try simp only [List.getElem_toArray, List.getElem_cons_succ, List.getElem_cons_zero, Act.put, List.setIfInBounds_toArray, List.set_cons_zero, List.set_cons_succ]
      refine wpAnyK_take (i := 15) (v := .int .i64 2) rfl (by kernel_rfl) (by kernel_rfl) (by kernel_rfl) (by kernel_rfl) (by decide) (fun _ _ _ h => h) (Or.inl ⟨by rfl, fun w' hw' => by go_simp⟩) hH ?_
      try simp only [List.getElem_toArray, List.getElem_cons_succ, List.getElem_cons_zero, Act.put, List.setIfInBounds_toArray, List.set_cons_zero, List.set_cons_succ]
      refine wpAnyK_done (by kernel_rfl) ?_ _
      obtain ⟨Bb, hBb⟩ : ∃ Bb, Bb = W4.heap.size := ⟨_, rfl⟩
      obtain ⟨Wb, hWb⟩ : ∃ Wb, W4.alloc (.cells #[.int .i64 1, .slice Ak 1 ck, .slice Ar 2 cr, .slice Au 3 cu, .int .i64 2, .slice Bk 1 dk, .slice Br 1 dr, .slice Bu 2 du] 44) = Wb := ⟨_, rfl⟩
      have hXb : Blk Wb Bb 44 #[.int .i64 1, .slice Ak 1 ck, .slice Ar 2 cr, .slice Au 3 cu, .int .i64 2, .slice Bk 1 dk, .slice Br 1 dr, .slice Bu 2 du] := by rw [← hWb, hBb]; exact Blk.new _ _ _
      have hD5 : Chg [] W4 Wb := by rw [← hWb]; exact (Chg.refl [] W4).alloc _
      rw [hWb, ← hBb]
      have hEb := hE4.trans hD5
      have hSb := hS0.ext hEb
      have hD45 := hD4.trans hD5
      have hD345 := hD3.trans hD45
      have ka : KS Wb (.slice Ak 1 ck) tP.k := (KS.own hk1 (by decide)).ext (hD2.trans hD345)
      have kb : KS Wb (.slice Ar 2 cr) tP.r := (KS.own hr1 (by decide)).ext (hD2.trans hD345)
      have kc : KS Wb (.slice Bk 1 dk) tT.k := (KS.own hk2 (by decide)).ext hD45
      have kd : KS Wb (.slice Br 1 dr) tT.r := (KS.own hr2 (by decide)).ext hD45
      have su : Wb.ownsRow W1.heap.size 62 5 (.slice Au 3 cu) 3 (cls (rP p)) := own_ext hu1 hD345
      have sv : Wb.ownsRow W3.heap.size 62 5 (.slice Bu 2 du) 2 (cls (rT p)) := own_ext hu2 hD5
      have hCb := hC.trans hEb
      have hGb := hG.chg hCb (by simp)
      have hsb : tb < Wb.heap.size := by obtain ⟨_, _, _, _, _, _, _, _, h1, _⟩ := hSb.t; exact h1.lt
      clear hBb hWb hS hrg
      go_wp2
      refine wp_loop_rounds 3 ?_
      rw [rounds_succ]
      obtain ⟨zp1, zp2, zp3⟩ := prP_size hpo
      obtain ⟨zt1, zt2, zt3⟩ := prT_size hpo
      obtain ⟨ld1, ld2⟩ := TreeL.load (M := M) (N := N) hpo hSb.ld
      have hr0 : ∀ W, Chg [] Wb W → Calls Tryz.prog 11 #[.agg #[.int .i64 1, .slice Ak 1 ck, .slice Ar 2 cr], .slice Au 3 cu] W fun e w' => e = .returned (.tuple #[.string (prP p).1, .string (prP p).2, .int .i64 0]) ∧ Chg [] W w' := fun W hW =>
        row_w tP (.slice Ak 1 ck) (.slice Ar 2 cr) (.slice Au 3 cu) (rP p) W (rP_ok hpo) (ka.ext hW) (kb.ext hW) ((Sl.own su).ext hW) (fun q hq => Nat.lt_of_lt_of_le (su.lt q hq).2 hW.size) (hGb.chg hW (by simp)) (by show (prP p).1.size ≤ 24; omega) (by show (prP p).2.size ≤ 40; omega)
      obtain ⟨tcs, hTbk⟩ : ∃ cs, Blk Wb tb 78 cs := by obtain ⟨_, _, _, _, _, _, _, _, h1, _⟩ := hSb.t; exact ⟨_, h1⟩
      have htb0 : 0 ≠ tb := by obtain ⟨_, h1⟩ := hG; have := block_lt_of_cell h1; omega
      have hok2 := own_ext hk2 hD45
      have hor2 := own_ext hr2 hD45
      have hr1 : ∀ W, Chg [tb] Wb W → Calls Tryz.prog 11 #[.agg #[.int .i64 2, .slice Bk 1 dk, .slice Br 1 dr], .slice Bu 2 du] W fun e w' => e = .returned (.tuple #[.string (prT p).1, .string (prT p).2, .int .i64 0]) ∧ Chg [] W w' := fun W hW =>
        row_w tT (.slice Bk 1 dk) (.slice Br 1 dr) (.slice Bu 2 du) (rT p) W (rT_ok hpo) (kc.chg hW (fun q hq hm => own_ne hok2 hTbk (by decide) hq (by simpa using hm))) (kd.chg hW (fun q hq hm => own_ne hor2 hTbk (by decide) hq (by simpa using hm))) ((Sl.own sv).chg hW (fun q hq hm => own_ne sv hTbk (by decide) hq (by simpa using hm))) (fun q hq => Nat.lt_of_lt_of_le (sv.lt q hq).2 hW.size) (hGb.chg hW (by simpa using htb0)) (by show (prT p).1.size ≤ 24; omega) (by show (prT p).2.size ≤ 40; omega)
      have hx1 : ∀ W, Chg [tb] Wb W → W.rangeAt Bb 4 [Value.int .i64 2, .slice Bk 1 dk, .slice Br 1 dr, .slice Bu 2 du] := fun W hW j u hj => by
        rw [(hXb.chg hW (by simpa using hXb.ne_ hTbk (by decide))).cell]
        match j, hj with
        | 0, hj => exact hj
        | 1, hj => exact hj
        | 2, hj => exact hj
        | 3, hj => exact hj
      have Hx1 := Lib.hid hx1
      clear hx1
      have okp : OkP (prP p) := ⟨by omega, by omega, prP_pos p⟩
      have okt : OkP (prT p) := ⟨by omega, by omega, prT_pos p⟩
      have Hr0 := Lib.hid hr0
      have Hr1 := Lib.hid hr1
      have hx0 : ∀ W, Chg [] Wb W → W.rangeAt Bb 0 [Value.int .i64 1, .slice Ak 1 ck, .slice Ar 2 cr, .slice Au 3 cu] := fun W hW j u hj => by
        rw [Nat.zero_add, (hXb.ext hW).cell]
        match j, hj with
        | 0, hj => exact hj
        | 1, hj => exact hj
        | 2, hj => exact hj
        | 3, hj => exact hj
      have Hx0 := Lib.hid hx0
      clear hr0 hr1 hx0
      go_wp2_with (first
        | (refine wpList_load_rng (by rfl) 44 (.tmp 84) rfl Bb 0 rfl _ _ (Hx0.out _ (Chg.refl _ _)) Tryz.underlying44 rfl (by kernel_rfl) ?_)
        | (go_at_call 11; go_loud (refine (Hr0.out _ ((Chg.refl [] Wb).alloc _)).mono ?_); rintro e Wc ⟨rfl, hF1⟩; have hF01 : Chg [] Wb Wc := ((Chg.refl [] Wb).alloc _).trans hF1)
        | (go_at_call 12; go_loud (refine (tput_w tb c1 (prP p) _ (hSb.t.ext hF01) okp zp1 (by have := hSb.ld; omega) (by omega)).mono ?_); rintro e Wd ⟨rfl, hTd, hCd⟩))
      rw [rounds_succ]
      have hF0d : Chg [tb] Wb Wd := (hF01.mono (by simp)).trans hCd
      go_wp2_with (first
        | (refine wpList_load_rng (by rfl) 44 (.tmp 84) rfl Bb 4 rfl _ _ (Hx1.out _ hF0d) Tryz.underlying44 rfl (by kernel_rfl) ?_)
        | (go_at_call 11; go_loud (refine (Hr1.out _ (hF0d.alloc _)).mono ?_); rintro e Wf ⟨rfl, hF2⟩; have hFd2 : Chg [] Wd Wf := ((Chg.refl [] Wd).alloc _).trans hF2)
        | (go_at_call 12; go_loud (refine (tput_w tb (ins (prP p) c1) (prT p) _ (hTd.ext hFd2) okt zt1 (by omega) (by omega)).mono ?_); rintro e Wg ⟨rfl, hTg, hCg⟩))
      rw [rounds_succ]
      have hFbg : Chg [tb] Wb Wg := (hF0d.trans (hFd2.mono (by simp))).trans hCg
      obtain ⟨mp1, bs1, vp1, hP⟩ := hSb.p
      obtain ⟨mt1, bs2, vt1, hTt⟩ := hSb.b
      have hPg := hP.far hTbk (by decide) (by decide) (by decide) (by have := hTbk.ne_ hP.b (by decide); exact this) hFbg
      have hTg2 := hTt.far hTbk (by decide) (by decide) (by decide) (by have := hTbk.ne_ hTt.b (by decide); exact this) hFbg
      have hIg := hSb.x.far hTbk (by decide) (by decide) hFbg
      have hGg := hGb.chg hFbg (by simpa using htb0)
      have hla := hSb.a.len2
      have hlb := hSb.bl.len2
      have hwtb : w.heap.size ≤ tb := htb
      have hCg2 : Chg [] w Wg := hCb.on hFbg (fun i hi => .inr (by simp at hi; omega))
      have hrgg := Hrg.out _ hCg2
      go_wp2_with (first
        | (refine wpList_load_rng (by rfl) 26 (.tmp 108) rfl s (o + k * 3) rfl _ _ hrgg Tryz.underlying26 rfl hi26 ?_; rw [Array.toArray_toList])
        | (go_at_call 9; go_loud (refine (row_p p _ hpo).mono ?_); rintro e Wh ⟨u5, rfl, hu5, hC5h⟩)
        | (have _h0 := hu6; go_at_call 13; go_loud (refine (bput_t hSb.bl hSb.n (hTi.ext hC6j) hpo hu6 (hGi.chg hC6j (by simp)) (by omega)).mono ?_); rintro e Wk ⟨mt2, bs4, vt2, LB2, rfl, hT3, hB3, hCk⟩)
        | (go_at_call 13; go_loud (refine (bput_p hSb.a hSb.m (hPg.ext hC5h) (hIg.ext hC5h) hpo hu5 (hGg.chg hC5h (by simp)) (by omega)).mono ?_); rintro e Wi ⟨mp2, bs3, vp2, LA2, rfl, hP2, hA2, hCi⟩; have hwbp : w.heap.size ≤ bp := (by have := hC12.size; simp at hbp; omega); have hCi2 : Chg [] w Wi := (hCg2.trans hC5h).on hCi (fun i hi => .inr (by simp at hi; omega)); have hrgi := Hrg.out _ hCi2; have hTi := (hTg2.ext hC5h).far (hPg.ext hC5h).b (by decide) (by decide) (by decide) hSb.ne hCi; have hGi := hG.chg hCi2 (by simp))
        | (refine wpList_load_rng (by rfl) 26 (.tmp 117) rfl s (o + k * 3) rfl _ _ hrgi Tryz.underlying26 rfl hi26 ?_; rw [Array.toArray_toList])
        | (go_at_call 10; go_loud (refine (row_t p _ hpo).mono ?_); rintro e Wj ⟨u6, rfl, hu6, hC6j⟩))
      go_roundw
      case rel =>
        have hPi := hP2.ext hC6j
        have hTj := hTi.ext hC6j
        have hPk := hPi.far hTj.b (by decide) (by decide) (by decide) (fun e => hSb.ne e.symm) hCk
        have hIk := ((((hIg.ext hC5h).far (hPg.ext hC5h).b (by decide) (by decide) hCi).ext hC6j).far hTj.b (by decide) (by decide) hCk)
        have hTk : TreeS Wk tb (ins (prT p) (ins (prP p) c1)) := (((hTg.ext hC5h).far (hPg.ext hC5h).b hCi).ext hC6j).far hTj.b hCk
        have hwbt : w.heap.size ≤ bt := by have h1 := (hC12.trans hC23).size; have h2 := hC4.size; omega
        have hCwk : Chg [] w Wk := (hCi2.trans hC6j).on hCk (fun i hi => .inr (by simp at hi; omega))
        have hfl : ∀ (f : Per → Bool), (M.filter f).length ≤ k := fun f => Nat.le_trans (List.length_filter_le _ _) hM
        have hfn : ∀ (f : Per → Bool), (N.filter f).length ≤ k := fun f => Nat.le_trans (List.length_filter_le _ _) hN
        refine ⟨k + 1, upP p M, upT p N, _, _, _, by omega, by go_num, ⟨hTk, hSb.tl.up hSb.m hSb.n hpo, ld2, ⟨_, _, _, hPk⟩, hIk, hA2, ⟨_, _, _, hT3⟩, hB3, hSb.m.up hpo, hSb.n.up hpo, hSb.ne⟩, ?_, ?_, ?_, ?_, hCwk⟩
        · show (p :: M.filter _).length ≤ k + 1
          have := hfl (fun q => decide (q.id ≠ p.id))
          simp only [List.length_cons]; omega
        · show (p :: N.filter _).length ≤ k + 1
          have := hfn (fun q => decide (q.nm ≠ p.nm))
          simp only [List.length_cons]; omega
        · intro q hq
          rcases (upP_mem _ _ _).1 hq with rfl | ⟨hq, _⟩
          · exact hpm
          · exact hMp q hq
        · intro q hq
          rcases (upT_mem _ _ _).1 hq with rfl | ⟨hq, _⟩
          · exact hpm
          · exact hNp q hq
      case measure => simp [intOf]; omega
    · obtain rfl : k = ps.length := by omega
      have hGr := hG.chg hC (by simp)
      obtain ⟨mp, bsp, vp, hP⟩ := hSx.p
      obtain ⟨mt, bst, vt, hT⟩ := hSx.b
      obtain ⟨R1, q1, q2, q3, q4⟩ := order_p hSx.tl hSx.a hSx.m
      obtain ⟨R2, t1, t2, t3, t4⟩ := order_t hSx.tl hSx.bl
      obtain ⟨R3, s1, s2, s3, s4⟩ := order_e hSx.a hSx.m
      have hlen : c1.length = R1.length + R2.length := by rw [hSx.tl.len, q1, t1, List.length_map, List.length_map]
      have hro1 : ∀ l ∈ R1.map rP, RowOk tP l ∧ (rkey tP l).size ≤ 24 ∧ (rval tP l).size ≤ 40 := fun l hl => by
        obtain ⟨p, hp, rfl⟩ := List.mem_map.1 hl
        have hp := hok p (hMp p (q3 p hp))
        obtain ⟨z1, z2, z3⟩ := prP_size hp
        exact ⟨rP_ok hp, by show (prP p).1.size ≤ 24; omega, by show (prP p).2.size ≤ 40; omega⟩
      have hro2 : ∀ l ∈ R2.map rT, RowOk tT l ∧ (rkey tT l).size ≤ 24 ∧ (rval tT l).size ≤ 40 := fun l hl => by
        obtain ⟨p, hp, rfl⟩ := List.mem_map.1 hl
        have hp := hok p (hNp p (t3 p hp))
        obtain ⟨z1, z2, z3⟩ := prT_size hp
        exact ⟨rT_ok hp, by show (prT p).1.size ≤ 24; omega, by show (prT p).2.size ≤ 40; omega⟩
      obtain ⟨n1, hn1⟩ : ∃ n, n = M.length := ⟨_, rfl⟩
      obtain ⟨n2, hn2⟩ : ∃ n, n = R2.length := ⟨_, rfl⟩
      have hb1 : n1 ≤ 24 := by omega
      have hb2 : n2 ≤ 24 := by omega
      have hR1 : (R1.map rP).length = n1 := by rw [List.length_map]; omega
      have hR2 : (R2.map rT).length = n2 := by rw [List.length_map]; omega
      have hR3 : (R3.map rP).length = n1 := by rw [List.length_map]; omega
      have hcl : (c1.length : Int) = (n1 : Int) + (n2 : Int) := by omega
      have hro3 : ∀ q ∈ R1.map rP, q.length ≤ 100 := fun l hl => by obtain ⟨p, _, rfl⟩ := List.mem_map.1 hl; show 3 ≤ 100; omega
      have hro4 : ∀ q ∈ R2.map rT, q.length ≤ 100 := fun l hl => by obtain ⟨p, _, rfl⟩ := List.mem_map.1 hl; show 2 ≤ 100; omega
      have hsp1 : ∀ vk vr W, Chg [] wr W → KS W vk tP.k → KS W vr tP.r → Calls Tryz.prog 14 #[.pointer (some ⟨tb, 0, none⟩), .agg (tbV tP vk vr)] W fun e w' => ∃ A c, e = .returned (.tuple #[.slice A n1 c, .bool true]) ∧ RowsV w' W.heap.size (.slice A n1 c) (R1.map rP) ∧ Chg [] W w' := fun vk vr W hW hk hr =>
        (spanned_w tb c1 tP vk vr (R1.map rP) W (hSx.t.ext hW) (hGr.chg hW (by simp)) tP_ok (by decide) hk hr (by rw [List.map_map]; exact (til_sel hSx.tl.srt 1).trans q1) hro1 (by omega)).mono fun e w' ⟨v', e1, e2, e3⟩ => by
          obtain ⟨A, c, rfl, _, _⟩ := e2.form
          rw [hR1] at e1 e2
          exact ⟨A, c, e1, e2, e3⟩
      have hsp2 : ∀ vk vr W, Chg [] wr W → KS W vk tT.k → KS W vr tT.r → Calls Tryz.prog 14 #[.pointer (some ⟨tb, 0, none⟩), .agg (tbV tT vk vr)] W fun e w' => ∃ A c, e = .returned (.tuple #[.slice A n2 c, .bool true]) ∧ RowsV w' W.heap.size (.slice A n2 c) (R2.map rT) ∧ Chg [] W w' := fun vk vr W hW hk hr =>
        (spanned_w tb c1 tT vk vr (R2.map rT) W (hSx.t.ext hW) (hGr.chg hW (by simp)) tT_ok (by decide) hk hr (by rw [List.map_map]; exact (til_sel hSx.tl.srt 2).trans t1) hro2 (by omega)).mono fun e w' ⟨v', e1, e2, e3⟩ => by
          obtain ⟨A, c, rfl, _, _⟩ := e2.form
          rw [hR2] at e1 e2
          exact ⟨A, c, e1, e2, e3⟩
      have hby : ∀ W, Chg [] wr W → Calls Tryz.prog 15 #[.pointer (some ⟨bp, 0, none⟩), .int .i64 3, .slice none 0 0] W fun e w' => ∃ A c, e = .returned (.tuple #[.slice A n1 c, .int .i64 0]) ∧ RowsV w' W.heap.size (.slice A n1 c) (R3.map rP) ∧ Chg [] W w' := fun W hW =>
        (by_w bp mp bsp cb cc v1P v2P vx vp LA R3 W (hP.ext hW) (hSx.x.ext hW) (hGr.chg hW (by simp)) s1 (fun e he => ⟨hSx.m.ok e (s2 e he), (hSx.a.mem _).2 (.inl ⟨e, s2 e he, rfl⟩)⟩) (by omega)).mono fun e w' ⟨v', e1, e2, e3⟩ => by
          obtain ⟨A, c, rfl, _, _⟩ := e2.form
          rw [hR3] at e1 e2
          exact ⟨A, c, e1, e2, e3⟩
      have hbr1 : ∀ W, Chg [] wr W → Calls Tryz.prog 17 #[.pointer (some ⟨bp, 0, none⟩)] W fun e w' => ∃ A c, e = .returned (.slice A n1 c) ∧ RowsV w' W.heap.size (.slice A n1 c) (R1.map rP) ∧ Chg [] W w' := fun W hW =>
        (brows_w bp mp bsp tP v1P v2P vx vp LA (R1.map rP) W (hP.ext hW) (hGr.chg hW (by simp)) (by decide) (by rw [List.map_map]; exact q2) hro1 (by omega)).mono fun e w' ⟨v', e1, e2, e3⟩ => by
          obtain ⟨A, c, rfl, _, _⟩ := e2.form
          rw [hR1] at e1 e2
          exact ⟨A, c, e1, e2, e3⟩
      have hbr2 : ∀ W, Chg [] wr W → Calls Tryz.prog 17 #[.pointer (some ⟨bt, 0, none⟩)] W fun e w' => ∃ A c, e = .returned (.slice A n2 c) ∧ RowsV w' W.heap.size (.slice A n2 c) (R2.map rT) ∧ Chg [] W w' := fun W hW =>
        (brows_w bt mt bst tT v1T v2T (.slice none 0 0) vt LB (R2.map rT) W (hT.ext hW) (hGr.chg hW (by simp)) (by decide) (by rw [List.map_map]; exact t2) hro2 (by omega)).mono fun e w' ⟨v', e1, e2, e3⟩ => by
          obtain ⟨A, c, rfl, _, _⟩ := e2.form
          rw [hR2] at e1 e2
          exact ⟨A, c, e1, e2, e3⟩
      have hlenw : ∀ W, Chg [] wr W → Calls Tryz.prog 18 #[.pointer (some ⟨tb, 0, none⟩)] W fun e w' => e = .returned (.int .i64 ((n1 : Int) + (n2 : Int))) ∧ W = w' := fun W hW => by
        rw [← hcl]; exact tlen_w tb c1 W (hSx.t.ext hW)
      obtain ⟨ba, bm, bw, fr, rt, pgs, ls, fl, g1, g2, g3, g4⟩ := hSx.t
      have har : ∀ W, Chg [] wr W → Calls Tryz.prog 21 #[.pointer (some ⟨tb, 0, none⟩)] W fun e w' => ∃ ba' bm' bw', e = .returned (.pointer (some ⟨ba', 0, none⟩)) ∧ ArS w' ba' bm' bw' fr rt pgs ∧ Chg [] W w' := fun W hW =>
        (tarena2 tb ba bm bw fr rt pgs ls fl W (g4 ▸ g1.ext hW) (g2.ext hW) g3).mono fun e w' ⟨a, b, c, e1, _, _, _, e2, e3⟩ => ⟨a, b, c, e1, e2, e3⟩
      have hle : ∀ j p q, R3[j]? = some p → R3[j + 1]? = some q → p.sc ≤ q.sc := fun j p q a b => s4 j p q a b
      have Hsp1 := Lib.hid hsp1
      have Hsp2 := Lib.hid hsp2
      have Hby := Lib.hid hby
      have Hbr1 := Lib.hid hbr1
      have Hbr2 := Lib.hid hbr2
      have Hlen := Lib.hid hlenw
      have Har := Lib.hid har
      have Hle := Lib.hid hle
      have Hr3 := Lib.hid hR3
      have Hr1 := Lib.hid hR1
      have Hr2 := Lib.hid hR2
      have Hro3 := Lib.hid hro3
      have Hro4 := Lib.hid hro4
      have HC := Lib.hid hC
      have hwsum : wrap64 ((n1 : Int) + (n2 : Int)) = (n1 : Int) + (n2 : Int) := by unfold wrap64; omega
      clear hsp1 hsp2 hby hbr1 hbr2 hlenw har hle hR1 hR2 hR3 hro1 hro2 hro3 hro4 q1 q2 q3 q4 t1 t2 t3 t4 s1 s2 s3 s4 hlen hcl hn1 hn2 hP hT g1 g2 g4 hM hN hMp hNp hSx hok hL
      go_wp2_with (first
        | (go_at_call 7; refine (people_w _).mono ?_; rintro e u1 ⟨vk1, vr1, rfl, hk1, hr1, hD1⟩)
        | (have _h0 := hr2; go_at_call 14; go_loud (refine (Hsp2.out _ _ _ hE3 (KS.own hk2 (by decide)) (KS.own hr2 (by decide))).mono ?_); rintro e u4 ⟨Ay, cy, rfl, hY, hD4⟩; have hE4 := hE3.trans hD4)
        | (go_at_call 14; go_loud (refine (Hsp1.out _ _ _ hD1 (KS.own hk1 (by decide)) (KS.own hr1 (by decide))).mono ?_); rintro e u2 ⟨Ax, cx, rfl, hX, hD2⟩; have hE2 := hD1.trans hD2)
        | (go_at_call 8; refine (towns_w _).mono ?_; rintro e u3 ⟨vk2, vr2, rfl, hk2, hr2, hD3⟩; have hE3 := hE2.trans hD3)
        | (go_at_call 15; go_loud (refine (Hby.out _ hE4).mono ?_); rintro e u5 ⟨Az, cz, rfl, hZ, hD5⟩; have hE5 := hE4.trans hD5)
        | (have _h0 := hE7; go_at_call 17; go_loud (refine (Hbr2.out _ hE7).mono ?_); rintro e u8 ⟨Ac, cc2, rfl, hBt, hD8⟩; have hE8 := hE7.trans hD8)
        | (go_at_call 17; go_loud (refine (Hbr1.out _ hE5).mono ?_); rintro e u6 ⟨Ab, cb2, rfl, hBp, hD6⟩; have hE6 := hE5.trans hD6)
        | (have _h0 := hE8; go_at_call 16; go_loud (refine (same_w _ _ _ _ (R2.map rT) _ (((((hY.ext hD5).ext hD6).ext hD7).ext hD8)) hBt Hro4.out (by have := Hr2.out; omega)).mono ?_); rintro e u9 ⟨rfl, hD9⟩; have hE9 := hE8.trans hD9)
        | (go_at_call 16; go_loud (refine (same_w _ _ _ _ (R1.map rP) _ ((((hX.ext hD3).ext hD4).ext hD5).ext hD6) hBp Hro3.out (by have := Hr1.out; omega)).mono ?_); rintro e u7 ⟨rfl, hD7⟩; have hE7 := hE6.trans hD7)
        | (go_at_call 18; go_loud (refine (Hlen.out _ hE9).mono ?_); rintro e u10 ⟨rfl, rfl⟩))
      have hZ9 := (((hZ.ext hD6).ext hD7).ext hD8).ext hD9
      have hwz : u4.heap.size ≤ u9.heap.size := (((hD5.trans hD6).trans (hD7.trans hD8)).trans hD9).size
      have HE9 := Lib.hid hE9
      clear hX hY hBp hBt hE2 hE3 hE4 hE5 hE6 hE7 hE8 hE9 hD1 hD2 hD3 hD4 hD5 hD6 hD7 hD8 hD9 hZ
      go_loopw [20] (fun i wr => ∃ k : Nat, 1 ≤ k ∧ (k ≤ n1 ∨ k = 1) ∧ i = .int .i64 k ∧ Chg [] u9 wr) (fun i _ => n1 - (intOf i).toNat)
      case atStart => exact ⟨1, by omega, .inr rfl, rfl, Chg.refl _ _⟩
      case round =>
        obtain ⟨k, h1k, hkn, rfl, hCx⟩ := hrel
        by_cases hk2 : k < n1
        · obtain ⟨j, hj⟩ : ∃ j, k = j + 1 := ⟨k - 1, by omega⟩
          have hr3 := Hr3.out
          rw [List.length_map] at hr3
          obtain ⟨p, hp⟩ : ∃ p, R3[j]? = some p := ⟨_, List.getElem?_eq_getElem (by omega)⟩
          obtain ⟨q, hq⟩ : ∃ q, R3[k]? = some q := ⟨_, List.getElem?_eq_getElem (by omega)⟩
          have hle := Hle.out j p q hp (hj ▸ hq)
          obtain ⟨sa, oa, U1, B1, eA, hsa, hu1, hO1⟩ := (hZ9.ext hCx).at_ (i := k) (r := rP q) (by rw [List.getElem?_map, hq]; rfl)
          subst eA
          obtain ⟨sa', oa', U2, B2, eB, hsb, hu2, hO2⟩ := (hZ9.ext hCx).at_ (i := j) (r := rP p) (by rw [List.getElem?_map, hp]; rfl)
          cases eB
          obtain ⟨su, ou, cu, rfl, hsu, hxu⟩ := own_at (n := 3) hO1 (by decide)
          obtain ⟨sv, ov, cv, rfl, hsv, hxv⟩ := own_at (n := 3) hO2 (by decide)
          have hS : ∀ W, Chg [] wr W → (W.cell? ⟨sa, oa + k, none⟩ = some (.slice (some ⟨su, ou, none⟩) 3 cu) ∧ W.cell? ⟨sa, oa + j, none⟩ = some (.slice (some ⟨sv, ov, none⟩) 3 cv) ∧ (∀ i, i < 5 → W.cell? ⟨su, ou + 10 + i, none⟩ = (Cl.i q.sc).cs.toList[i]?) ∧ (∀ i, i < 5 → W.cell? ⟨sv, ov + 10 + i, none⟩ = (Cl.i p.sc).cs.toList[i]?)) := fun W hW =>
            ⟨by rw [hW.cell hsa (by simp)]; exact hu1, by rw [hW.cell hsa (by simp)]; exact hu2, fun i hi => by rw [hW.cell hsu (by simp), Nat.add_assoc, hxu _ (by omega)]; exact cls_get (rP q) 2 (.i q.sc) rfl i hi, fun i hi => by rw [hW.cell hsv (by simp), Nat.add_assoc, hxv _ (by omega)]; exact cls_get (rP p) 2 (.i p.sc) rfl i hi⟩
          have hsub : IntKind.i64.wrap ((k : Int) - 1) = (j : Int) := by rw [IntKind.wrap_i64]; omega
          have hjn : j < n1 := by omega
          have Hsub := Lib.hid hsub
          have Hj := Lib.hid hj
          clear hsub hj hu1 hu2 hxu hxv hO1 hO2 hp hq hr3
          go_upto_region 26 with fail
          try simp only [Act.put, List.setIfInBounds_toArray, List.set_cons_zero, List.set_cons_succ]
          go_cut [218] (fun v wx => v = .bool false ∧ Chg [] wr wx)
          case first =>
            refine wp_region_K (S := fun W => W.cell? ⟨sa, oa + k, none⟩ = some (.slice (some ⟨su, ou, none⟩) 3 cu) ∧ W.cell? ⟨sa, oa + j, none⟩ = some (.slice (some ⟨sv, ov, none⟩) 3 cv) ∧ (∀ i, i < 5 → W.cell? ⟨su, ou + 10 + i, none⟩ = (Cl.i q.sc).cs.toList[i]?) ∧ (∀ i, i < 5 → W.cell? ⟨sv, ov + 10 + i, none⟩ = (Cl.i p.sc).cs.toList[i]?)) 99 (by kernel_rfl) (hS _ ((Chg.refl [] wr).drew)) (fun hH => ?_)
            refine wpAnyK_take (i := 0) (v := .slice (some ⟨sa, oa, none⟩) n1 cz) rfl (by kernel_rfl) (by kernel_rfl) (by kernel_rfl) (by kernel_rfl) (by decide) (fun _ _ _ h => h) (Or.inl ⟨by rfl, fun w' hw' => by go_simp⟩) hH ?_
            try simp only [List.getElem_toArray, List.getElem_cons_succ, List.getElem_cons_zero, Act.put, List.setIfInBounds_toArray, List.set_cons_zero, List.set_cons_succ]
            refine wpAnyK_take (i := 1) (v := .int .i64 k) rfl (by kernel_rfl) (by kernel_rfl) (by kernel_rfl) (by kernel_rfl) (by decide) (fun _ _ _ h => h) (Or.inl ⟨by rfl, fun w' hw' => by go_simp⟩) hH ?_
            try simp only [List.getElem_toArray, List.getElem_cons_succ, List.getElem_cons_zero, Act.put, List.setIfInBounds_toArray, List.set_cons_zero, List.set_cons_succ]
            refine wpAnyK_take (i := 2) (v := .pointer (some ⟨sa, oa + k, none⟩)) rfl (by kernel_rfl) (by kernel_rfl) (by kernel_rfl) (by kernel_rfl) (by decide) (fun _ _ _ h => h) (Or.inl ⟨by rfl, fun w' hw' => by go_simp⟩) hH ?_
            try simp only [List.getElem_toArray, List.getElem_cons_succ, List.getElem_cons_zero, Act.put, List.setIfInBounds_toArray, List.set_cons_zero, List.set_cons_succ]
            refine wpAnyK_take (i := 3) (v := .slice (some ⟨su, ou, none⟩) 3 cu) rfl (by kernel_rfl) (by kernel_rfl) (by kernel_rfl) (by kernel_rfl) (by decide) (fun _ _ _ h => h) (yieldsIf_load_cell (by rfl) 42 _ rfl (sa) (oa + k) rfl _ (fun w' hw' => hw'.1) (fun w => Tryz.isAgg42 w)) hH ?_
            try simp only [List.getElem_toArray, List.getElem_cons_succ, List.getElem_cons_zero, Act.put, List.setIfInBounds_toArray, List.set_cons_zero, List.set_cons_succ]
            refine wpAnyK_take (i := 4) (v := .int .i64 3) rfl (by kernel_rfl) (by kernel_rfl) (by kernel_rfl) (by kernel_rfl) (by decide) (fun _ _ _ h => h) (Or.inl ⟨by rfl, fun w' hw' => by go_simp⟩) hH ?_
            try simp only [List.getElem_toArray, List.getElem_cons_succ, List.getElem_cons_zero, Act.put, List.setIfInBounds_toArray, List.set_cons_zero, List.set_cons_succ]
            refine wpAnyK_take (i := 5) (v := .bool false) rfl (by kernel_rfl) (by kernel_rfl) (by kernel_rfl) (by kernel_rfl) (by decide) (fun _ _ _ h => h) (Or.inl ⟨by rfl, fun w' hw' => by go_simp⟩) hH ?_
            try simp only [List.getElem_toArray, List.getElem_cons_succ, List.getElem_cons_zero, Act.put, List.setIfInBounds_toArray, List.set_cons_zero, List.set_cons_succ]
            refine wpAnyK_take (i := 6) (v := .bool false) rfl (by kernel_rfl) (by kernel_rfl) (by kernel_rfl) (by kernel_rfl) (by decide) (fun _ _ _ h => h) (Or.inl ⟨by rfl, fun w' hw' => by go_simp⟩) hH ?_
            try simp only [List.getElem_toArray, List.getElem_cons_succ, List.getElem_cons_zero, Act.put, List.setIfInBounds_toArray, List.set_cons_zero, List.set_cons_succ]
            refine wpAnyK_take (i := 7) (v := .slice (some ⟨sa, oa, none⟩) n1 cz) rfl (by kernel_rfl) (by kernel_rfl) (by kernel_rfl) (by kernel_rfl) (by decide) (fun _ _ _ h => h) (Or.inl ⟨by rfl, fun w' hw' => by go_simp⟩) hH ?_
            try simp only [List.getElem_toArray, List.getElem_cons_succ, List.getElem_cons_zero, Act.put, List.setIfInBounds_toArray, List.set_cons_zero, List.set_cons_succ]
            refine wpAnyK_take (i := 8) (v := .int .i64 k) rfl (by kernel_rfl) (by kernel_rfl) (by kernel_rfl) (by kernel_rfl) (by decide) (fun _ _ _ h => h) (Or.inl ⟨by rfl, fun w' hw' => by go_simp⟩) hH ?_
            try simp only [List.getElem_toArray, List.getElem_cons_succ, List.getElem_cons_zero, Act.put, List.setIfInBounds_toArray, List.set_cons_zero, List.set_cons_succ]
            refine wpAnyK_take (i := 9) (v := .int .i64 j) rfl (by kernel_rfl) (by kernel_rfl) (by kernel_rfl) (by kernel_rfl) (by decide) (fun _ _ _ h => h) (Or.inl ⟨by rfl, fun w' hw' => by go_simp; exact Hsub.out⟩) hH ?_
            try simp only [List.getElem_toArray, List.getElem_cons_succ, List.getElem_cons_zero, Act.put, List.setIfInBounds_toArray, List.set_cons_zero, List.set_cons_succ]
            refine wpAnyK_take (i := 10) (v := .pointer (some ⟨sa, oa + j, none⟩)) rfl (by kernel_rfl) (by kernel_rfl) (by kernel_rfl) (by kernel_rfl) (by decide) (fun _ _ _ h => h) (Or.inl ⟨by rfl, fun w' hw' => by go_simp⟩) hH ?_
            try simp only [List.getElem_toArray, List.getElem_cons_succ, List.getElem_cons_zero, Act.put, List.setIfInBounds_toArray, List.set_cons_zero, List.set_cons_succ]
            refine wpAnyK_take (i := 11) (v := .slice (some ⟨sv, ov, none⟩) 3 cv) rfl (by kernel_rfl) (by kernel_rfl) (by kernel_rfl) (by kernel_rfl) (by decide) (fun _ _ _ h => h) (yieldsIf_load_cell (by rfl) 42 _ rfl (sa) (oa + j) rfl _ (fun w' hw' => hw'.2.1) (fun w => Tryz.isAgg42 w)) hH ?_
            try simp only [List.getElem_toArray, List.getElem_cons_succ, List.getElem_cons_zero, Act.put, List.setIfInBounds_toArray, List.set_cons_zero, List.set_cons_succ]
            refine wpAnyK_take (i := 12) (v := .int .i64 3) rfl (by kernel_rfl) (by kernel_rfl) (by kernel_rfl) (by kernel_rfl) (by decide) (fun _ _ _ h => h) (Or.inl ⟨by rfl, fun w' hw' => by go_simp⟩) hH ?_
            try simp only [List.getElem_toArray, List.getElem_cons_succ, List.getElem_cons_zero, Act.put, List.setIfInBounds_toArray, List.set_cons_zero, List.set_cons_succ]
            refine wpAnyK_take (i := 13) (v := .bool false) rfl (by kernel_rfl) (by kernel_rfl) (by kernel_rfl) (by kernel_rfl) (by decide) (fun _ _ _ h => h) (Or.inl ⟨by rfl, fun w' hw' => by go_simp⟩) hH ?_
            try simp only [List.getElem_toArray, List.getElem_cons_succ, List.getElem_cons_zero, Act.put, List.setIfInBounds_toArray, List.set_cons_zero, List.set_cons_succ]
            refine wpAnyK_take (i := 14) (v := .bool false) rfl (by kernel_rfl) (by kernel_rfl) (by kernel_rfl) (by kernel_rfl) (by decide) (fun _ _ _ h => h) (Or.inl ⟨by rfl, fun w' hw' => by go_simp⟩) hH ?_
            try simp only [List.getElem_toArray, List.getElem_cons_succ, List.getElem_cons_zero, Act.put, List.setIfInBounds_toArray, List.set_cons_zero, List.set_cons_succ]
            refine wpAnyK_take (i := 15) (v := .bool false) rfl (by kernel_rfl) (by kernel_rfl) (by kernel_rfl) (by kernel_rfl) (by decide) (fun _ _ _ h => h) (Or.inl ⟨by rfl, fun w' hw' => by go_simp⟩) hH ?_
            try simp only [List.getElem_toArray, List.getElem_cons_succ, List.getElem_cons_zero, Act.put, List.setIfInBounds_toArray, List.set_cons_zero, List.set_cons_succ]
            refine wpAnyK_take (i := 16) (v := .slice (some ⟨sa, oa, none⟩) n1 cz) rfl (by kernel_rfl) (by kernel_rfl) (by kernel_rfl) (by kernel_rfl) (by decide) (fun _ _ _ h => h) (Or.inl ⟨by rfl, fun w' hw' => by go_simp⟩) hH ?_
            try simp only [List.getElem_toArray, List.getElem_cons_succ, List.getElem_cons_zero, Act.put, List.setIfInBounds_toArray, List.set_cons_zero, List.set_cons_succ]
            refine wpAnyK_take (i := 17) (v := .int .i64 k) rfl (by kernel_rfl) (by kernel_rfl) (by kernel_rfl) (by kernel_rfl) (by decide) (fun _ _ _ h => h) (Or.inl ⟨by rfl, fun w' hw' => by go_simp⟩) hH ?_
            try simp only [List.getElem_toArray, List.getElem_cons_succ, List.getElem_cons_zero, Act.put, List.setIfInBounds_toArray, List.set_cons_zero, List.set_cons_succ]
            refine wpAnyK_take (i := 18) (v := .int .i64 j) rfl (by kernel_rfl) (by kernel_rfl) (by kernel_rfl) (by kernel_rfl) (by decide) (fun _ _ _ h => h) (Or.inl ⟨by rfl, fun w' hw' => by go_simp; exact Hsub.out⟩) hH ?_
            try simp only [List.getElem_toArray, List.getElem_cons_succ, List.getElem_cons_zero, Act.put, List.setIfInBounds_toArray, List.set_cons_zero, List.set_cons_succ]
            refine wpAnyK_take (i := 19) (v := .pointer (some ⟨sa, oa + j, none⟩)) rfl (by kernel_rfl) (by kernel_rfl) (by kernel_rfl) (by kernel_rfl) (by decide) (fun _ _ _ h => h) (Or.inl ⟨by rfl, fun w' hw' => by go_simp⟩) hH ?_
            try simp only [List.getElem_toArray, List.getElem_cons_succ, List.getElem_cons_zero, Act.put, List.setIfInBounds_toArray, List.set_cons_zero, List.set_cons_succ]
            refine wpAnyK_take (i := 20) (v := .slice (some ⟨sv, ov, none⟩) 3 cv) rfl (by kernel_rfl) (by kernel_rfl) (by kernel_rfl) (by kernel_rfl) (by decide) (fun _ _ _ h => h) (yieldsIf_load_cell (by rfl) 42 _ rfl (sa) (oa + j) rfl _ (fun w' hw' => hw'.2.1) (fun w => Tryz.isAgg42 w)) hH ?_
            try simp only [List.getElem_toArray, List.getElem_cons_succ, List.getElem_cons_zero, Act.put, List.setIfInBounds_toArray, List.set_cons_zero, List.set_cons_succ]
            refine wpAnyK_take (i := 21) (v := .pointer (some ⟨sv, ov + 10, none⟩)) rfl (by kernel_rfl) (by kernel_rfl) (by kernel_rfl) (by kernel_rfl) (by decide) (fun _ _ _ h => h) (Or.inl ⟨by rfl, fun w' hw' => by go_simp⟩) hH ?_
            try simp only [List.getElem_toArray, List.getElem_cons_succ, List.getElem_cons_zero, Act.put, List.setIfInBounds_toArray, List.set_cons_zero, List.set_cons_succ]
            refine wpAnyK_take (i := 22) (v := .agg (Cl.i p.sc).cs) rfl (by kernel_rfl) (by kernel_rfl) (by kernel_rfl) (by kernel_rfl) (by decide) (fun _ _ _ h => h) (yieldsIf_load_cm (by rfl) _ rfl sv (ov + 10) rfl (Cl.i p.sc) (fun w h => h.2.2.2)) hH ?_
            try simp only [List.getElem_toArray, List.getElem_cons_succ, List.getElem_cons_zero, Act.put, List.setIfInBounds_toArray, List.set_cons_zero, List.set_cons_succ]
            refine wpAnyK_take (i := 23) (v := .slice (some ⟨sa, oa, none⟩) n1 cz) rfl (by kernel_rfl) (by kernel_rfl) (by kernel_rfl) (by kernel_rfl) (by decide) (fun _ _ _ h => h) (Or.inl ⟨by rfl, fun w' hw' => by go_simp⟩) hH ?_
            try simp only [List.getElem_toArray, List.getElem_cons_succ, List.getElem_cons_zero, Act.put, List.setIfInBounds_toArray, List.set_cons_zero, List.set_cons_succ]
            refine wpAnyK_take (i := 24) (v := .int .i64 k) rfl (by kernel_rfl) (by kernel_rfl) (by kernel_rfl) (by kernel_rfl) (by decide) (fun _ _ _ h => h) (Or.inl ⟨by rfl, fun w' hw' => by go_simp⟩) hH ?_
            try simp only [List.getElem_toArray, List.getElem_cons_succ, List.getElem_cons_zero, Act.put, List.setIfInBounds_toArray, List.set_cons_zero, List.set_cons_succ]
            refine wpAnyK_take (i := 25) (v := .pointer (some ⟨sa, oa + k, none⟩)) rfl (by kernel_rfl) (by kernel_rfl) (by kernel_rfl) (by kernel_rfl) (by decide) (fun _ _ _ h => h) (Or.inl ⟨by rfl, fun w' hw' => by go_simp⟩) hH ?_
            try simp only [List.getElem_toArray, List.getElem_cons_succ, List.getElem_cons_zero, Act.put, List.setIfInBounds_toArray, List.set_cons_zero, List.set_cons_succ]
            refine wpAnyK_take (i := 26) (v := .slice (some ⟨su, ou, none⟩) 3 cu) rfl (by kernel_rfl) (by kernel_rfl) (by kernel_rfl) (by kernel_rfl) (by decide) (fun _ _ _ h => h) (yieldsIf_load_cell (by rfl) 42 _ rfl (sa) (oa + k) rfl _ (fun w' hw' => hw'.1) (fun w => Tryz.isAgg42 w)) hH ?_
            try simp only [List.getElem_toArray, List.getElem_cons_succ, List.getElem_cons_zero, Act.put, List.setIfInBounds_toArray, List.set_cons_zero, List.set_cons_succ]
            refine wpAnyK_take (i := 27) (v := .pointer (some ⟨su, ou + 10, none⟩)) rfl (by kernel_rfl) (by kernel_rfl) (by kernel_rfl) (by kernel_rfl) (by decide) (fun _ _ _ h => h) (Or.inl ⟨by rfl, fun w' hw' => by go_simp⟩) hH ?_
            try simp only [List.getElem_toArray, List.getElem_cons_succ, List.getElem_cons_zero, Act.put, List.setIfInBounds_toArray, List.set_cons_zero, List.set_cons_succ]
            refine wpAnyK_take (i := 28) (v := .agg (Cl.i q.sc).cs) rfl (by kernel_rfl) (by kernel_rfl) (by kernel_rfl) (by kernel_rfl) (by decide) (fun _ _ _ h => h) (yieldsIf_load_cm (by rfl) _ rfl su (ou + 10) rfl (Cl.i q.sc) (fun w h => h.2.2.1)) hH ?_
            try simp only [List.getElem_toArray, List.getElem_cons_succ, List.getElem_cons_zero, Act.put, List.setIfInBounds_toArray, List.set_cons_zero, List.set_cons_succ]
            refine wpAnyK_ready (rs := [29]) (by kernel_rfl) (by simp) ?_
            refine AllReadyK.cons rfl (fun K hK => ?_) AllReadyK.nil
            go_simp
            refine (compare_i p.sc q.sc _ hle).mono ?_
            rintro e Wn ⟨r, rfl, hr0, hDn⟩
            refine hK.out _ _ (hS _ (((Chg.refl [] wr).drew).trans hDn)) (fun hH => ?_)
            clear hK K
            try simp only [List.getElem_toArray, List.getElem_cons_succ, List.getElem_cons_zero, Act.put, List.setIfInBounds_toArray, List.set_cons_zero, List.set_cons_succ]
            refine wpAnyK_take (i := 30) (v := .bool false) rfl (by kernel_rfl) (by kernel_rfl) (by kernel_rfl) (by kernel_rfl) (by decide) (fun _ _ _ h => h) (Or.inl ⟨by rfl, fun w' hw' => by go_simp⟩) hH ?_
            try simp only [List.getElem_toArray, List.getElem_cons_succ, List.getElem_cons_zero, Act.put, List.setIfInBounds_toArray, List.set_cons_zero, List.set_cons_succ]
            refine wpAnyK_take (i := 31) (v := .bool false) rfl (by kernel_rfl) (by kernel_rfl) (by kernel_rfl) (by kernel_rfl) (by decide) (fun _ _ _ h => h) (Or.inl ⟨by rfl, fun w' hw' => by go_simp⟩) hH ?_
            try simp only [List.getElem_toArray, List.getElem_cons_succ, List.getElem_cons_zero, Act.put, List.setIfInBounds_toArray, List.set_cons_zero, List.set_cons_succ]
            refine wpAnyK_done (by kernel_rfl) ?_ _
            go_wp2_with fail
            go_meet
            exact ⟨rfl, ((Chg.refl [] wr).drew).trans hDn⟩
          case rest =>
            obtain ⟨rfl, hCo⟩ := hcut
            go_wp2
            go_roundw
            case rel => exact ⟨k + 1, by omega, by omega, by go_num, hCx.trans hCo⟩
            case measure => simp [intOf]; omega
        · go_wp2_with (first
            | (go_at_call 21; refine (Har.out _ (HE9.out.trans hCx)).mono ?_; rintro e u11 ⟨ba', bm', bw', rfl, hA', hD11⟩)
            | (go_at_call 20; refine (good_w ba' bm' bw' fr rt pgs ls fl _ hA' g3).mono ?_; rintro e u12 ⟨rfl, hD12⟩))
          go_ret
          exact ⟨rfl, (((HC.out.trans HE9.out).trans hCx).trans hD11).trans hD12⟩

end Go.Proofs.YtpcaadipejnllaaGreatDoor
