/- Copies of memories and arenas; what the counts begin with. -/
import Derived.Test.YtpcaadipejnllaaGreatDoorPart01
import Derived.Shelf.Small.Strs
import Derived.Shelf.Strings.Builder1
import Derived.Shelf.Strings.Builder2
import Derived.Shelf.Strings.Search1
import Derived.Shelf.Strings.Search2
import Derived.Shelf.Strings.Search3
import Derived.Shelf.Strings.Split
import Derived.Shelf.Strings.Replace
import Derived.Test.YtpcaadipejnllaaGreatDoorProg
import Derived.Laws.BitsAllLaws
import Derived.Lib.SlBytesRow
import Derived.Laws.IdiomStrings
import Derived.Lib.BufferRead

set_option linter.unusedVariables false
set_option linter.unusedSimpArgs false
namespace Go.Proofs.YtpcaadipejnllaaGreatDoor
open Go.RowKit

theorem info60 : (Tryz.prog.info? 60).map (fun i => (i.zero, i.size, i.bytes)) = some (some (.int .u64 0), 1, 8) := by kernel_rfl
theorem nums_toList (l : List Nat) {j : Nat} {u : Value} (h : (nums l).toList[j]? = some u) : j < l.length ∧ u = .int .u64 (wd l j) := by
  rw [Array.getElem?_toList] at h
  have hj : j < l.length := by
    rcases Nat.lt_or_ge j l.length with h' | h'
    · exact h'
    · rw [Array.getElem?_eq_none (by rw [nums_size]; exact h')] at h; cases h
  rw [nums_get hj] at h
  injection h with h
  exact ⟨hj, h.symm⟩
theorem nums_all (l : List Nat) : ∀ u ∈ (nums l).toList, u.oneCell' = true := by
  intro u hu
  simp [nums] at hu
  obtain ⟨_, _, rfl⟩ := hu
  rfl

set_option maxRecDepth 100000 in
set_option maxHeartbeats 1000000 in
theorem clone_u64 (bm bw : Nat) (ws : List Nat) (cap : Nat) (w : World) (h : MemW w bm bw ws) :
    Calls Tryz.prog 101 #[.slice (some ⟨bw, 0, none⟩) ws.length cap] w
      fun e w' => ∃ v, e = .returned v ∧ w'.ownsRow w.heap.size 60 1 v ws.length (nums ws).toList ∧ Chg [] w w' := by
  obtain ⟨i0, hi, hz0, hz1, hz2⟩ := info_parts info60
  have hs := h.small
  have hp := h.pos
  have hlw := h.ltw
  have hnl : (nums ws).toList.length = ws.length * 1 := by simp [nums]
  have qN := fun (w : World) a n c n' c' => Lib.run_eql_slice_nil (P := Tryz.prog) w 118 60 a n c n' c' Tryz.underlying118
  go_enter Tryz.func101, Tryz.ntmps101
  go_wp2_with (first
    | (at_builtin; refine wpList_append_own _ rfl _ _ 118 rfl w.heap.size 60 i0 (.int .u64 0) 1 8 Tryz.underlying118 hi hz0 hz1 hz2 rfl (by decide) _ 0 [] rfl ?c0 ⟨bw, 0, none⟩ ws.length cap (nums ws).toList rfl hnl ?c1 (nums_all _) (by unfold maxLen; omega) (by omega) ?c2 ?c3))
  case c0 => exact World.ownsRow_made w #[] 0 (Nat.le_refl _) (by unfold maxLen; omega) (by simp)
  case c1 =>
    intro j u hj
    obtain ⟨hj1, rfl⟩ := nums_toList ws hj
    rw [Addr.add_mid, Nat.zero_add]
    exact (h.ext ((Chg.refl _ _).alloc _)).word hj1
  case c2 => simp
  case c3 =>
    intro v' w' hown hg _
    have hC : Chg [] w w' := ((Chg.refl _ _).alloc _).grown hg (by intro k hk; simp [Value.ownBlock] at hk; omega)
    go_wp2
    go_ret
    exact ⟨_, rfl, hown, hC⟩

/-- A memory over a row of its own. -/
theorem MemW.of_own {w : World} {base bm : Nat} {ws : List Nat} {v : Value} (h : w.ownsRow base 60 1 v ws.length (nums ws).toList) (hb : Blk w bm 120 #[v]) (hp : 0 < ws.length) (hs : ws.length ≤ 65536) :
    ∃ bw, base ≤ bw ∧ MemW w bm bw ws := by
  obtain ⟨hl, h2⟩ := h
  rcases h2 with ⟨rfl, h0⟩ | ⟨g, cap, cur, rfl, hbg, hg, hn, hm, hz, ht⟩
  · omega
  · refine ⟨g, hbg, ⟨cap, cur, hb, hg, hn, hm, by omega, fun i hi => ?_⟩, hp, hs⟩
    have : (cur.toList.take (ws.length * 1))[i]? = (nums ws).toList[i]? := by rw [ht]
    rw [List.getElem?_take, if_pos (by omega)] at this
    simp only [Array.getElem?_toList] at this
    rw [this, nums_get hi]

set_option maxRecDepth 100000 in
set_option maxHeartbeats 1000000 in
theorem mem_copy (bm bw : Nat) (ws : List Nat) (w : World) (h : MemW w bm bw ws) :
    Calls Tryz.prog 59 #[.pointer (some ⟨bm, 0, none⟩)] w
      fun e w' => ∃ bm' bw', e = .returned (.pointer (some ⟨bm', 0, none⟩)) ∧ w.heap.size ≤ bm' ∧ w.heap.size ≤ bw' ∧ MemW w' bm' bw' ws ∧ Chg [] w w' := by
  obtain ⟨cap, hc1, hc2, hc⟩ := h.head
  have hp := h.pos
  have hs := h.small
  go_enter Tryz.func59, Tryz.ntmps59
  go_wp2_with (first
    | (go_at_call 100; refine (mem_zero_no bm bw ws.length cap _ hp hc).mono ?_; rintro e w1 ⟨rfl, rfl⟩)
    | (go_at_call 101; refine (clone_u64 bm bw ws cap _ h).mono ?_; rintro e w1 ⟨v, rfl, hown, hC⟩; obtain ⟨A, c, rfl, _, _⟩ := (Sl.own hown).form))
  go_ret
  have hC2 := hC.alloc (.cells #[.slice A ws.length c] 120)
  obtain ⟨g, hg, hM⟩ := MemW.of_own (own_ext hown ((Chg.refl _ _).alloc _)) (Blk.new w1 120 _) hp hs
  exact ⟨_, g, rfl, hC.size, hg, hM, hC2⟩

set_option maxRecDepth 100000 in
set_option maxHeartbeats 1000000 in
theorem arena_mem (ba bm bw fr rt : Nat) (pgs : Nat → List Nat) (w : World) (h : ArS w ba bm bw fr rt pgs) :
    Calls Tryz.prog 99 #[.pointer (some ⟨ba, 0, none⟩)] w
      fun e w' => ∃ bm' bw' ws, e = .returned (.pointer (some ⟨bm', 0, none⟩)) ∧ w.heap.size ≤ bm' ∧ w.heap.size ≤ bw' ∧ MemW w' bm' bw' ws ∧ IsAr ws fr rt pgs ∧ Chg [] w w' := by
  have hc := h.cell
  obtain ⟨ws, hA, hI⟩ := id h
  go_enter Tryz.func99, Tryz.ntmps99
  go_wp2_with (first
    | (go_at_call 63; refine (none_s ba bm bw fr rt pgs _ h).mono ?_; rintro e w1 ⟨rfl, rfl⟩)
    | (go_at_call 59; refine (mem_copy bm bw ws _ hA.m).mono ?_; rintro e w1 ⟨bm', bw', rfl, h1, h2, hM, hC⟩))
  go_ret
  exact ⟨bm', bw', ws, rfl, h1, h2, hM, hI, hC⟩

set_option maxRecDepth 100000 in
set_option maxHeartbeats 1000000 in
theorem arena_copy (ba bm bw fr rt : Nat) (pgs : Nat → List Nat) (w : World) (h : ArS w ba bm bw fr rt pgs) :
    Calls Tryz.prog 56 #[.pointer (some ⟨ba, 0, none⟩)] w
      fun e w' => ∃ ba' bm' bw', e = .returned (.pointer (some ⟨ba', 0, none⟩)) ∧ w.heap.size ≤ ba' ∧ w.heap.size ≤ bm' ∧ w.heap.size ≤ bw' ∧ ArS w' ba' bm' bw' fr rt pgs ∧ Chg [] w w' := by
  go_enter Tryz.func56, Tryz.ntmps56
  go_wp2_with (first
    | (go_at_call 63; refine (none_s ba bm bw fr rt pgs _ h).mono ?_; rintro e w1 ⟨rfl, rfl⟩)
    | (go_at_call 99; refine (arena_mem ba bm bw fr rt pgs _ h).mono ?_; rintro e w1 ⟨bm', bw', ws, rfl, h1, h2, hM, hI, hC⟩))
  go_ret
  have hC2 : Chg [] w1 (w1.alloc (.cells #[.pointer (some ⟨bm', 0, none⟩)] 126)) := (Chg.refl _ _).alloc _
  exact ⟨_, bm', bw', rfl, hC.size, h1, h2, ⟨ws, ⟨Blk.new w1 126 _, hM.ext hC2⟩, hI⟩, hC.alloc _⟩

end Go.Proofs.YtpcaadipejnllaaGreatDoor

/- Pages of an arena written, taken and given back. -/
set_option linter.unusedVariables false
set_option linter.unusedSimpArgs false
namespace Go.Proofs.YtpcaadipejnllaaGreatDoor
open Go.RowKit

def upd (pgs : Nat → List Nat) (p : Nat) (x : List Nat) : Nat → List Nat := fun q => if q = p then x else pgs q
/-- A page's words with eight zeros ahead. -/
structure IsPg (pg : List Nat) : Prop where
  len : pg.length = 128
  z : ∀ i, i < 8 → wd pg i = 0
/-- The words of a free page with the next free one. -/
def freePg (nx : Nat) : List Nat := (List.replicate 128 0).set 10 nx
theorem freePg_wd (nx i : Nat) : wd (freePg nx) i = if i = 10 then (nx : Int) else 0 := by
  unfold freePg
  rw [wd_set _ _ _ _ (by simp)]
  by_cases h : 10 = i
  · rw [if_pos h, if_pos h.symm]
  · rw [if_neg h, if_neg (fun e => h e.symm)]
    unfold wd
    rw [List.getD, List.getElem?_replicate]
    split <;> rfl
theorem freePg_is (nx : Nat) : IsPg (freePg nx) := ⟨by simp [freePg], fun i hi => by rw [freePg_wd, if_neg (by omega)]⟩

theorem IsAr.put {ws ws' : List Nat} {fr rt : Nat} {pgs : Nat → List Nat} {page : Nat} {pg : List Nat} (h : IsAr ws fr rt pgs) (h1 : 1 ≤ page) (h2 : page ≤ 40) (hg : IsPg pg) (hp : PutTo ws ws' page pg 128) :
    IsAr ws' fr rt (upd pgs page pg) := by
  obtain ⟨hl, hw⟩ := hp
  have e : ∀ j : Nat, j < 16 → wd ws' j = wd ws j := fun j hj => by rw [hw, if_neg (by unfold pl; omega)]
  refine ⟨by rw [hl]; exact h.len, by rw [e 0 (by omega)]; exact h.w0, by rw [e 1 (by omega)]; exact h.w1, by rw [e 3 (by omega)]; exact h.w3, fun p hp1 hp2 => ?_⟩
  obtain ⟨a, b, c⟩ := h.pg p hp1 hp2
  unfold upd
  by_cases e : p = page
  · subst e
    rw [if_pos rfl]
    refine ⟨hg.len, hg.z, fun i hi => ?_⟩
    rw [hw]
    by_cases h8 : 8 ≤ i
    · rw [if_pos (by unfold pl; omega), show ((((pl p i).toNat : Nat) : Int) - pl p 0).toNat = i by unfold pl; omega]
    · rw [if_neg (by unfold pl; omega), c i hi, b i (by omega), hg.z i (by omega)]
  · rw [if_neg e]
    refine ⟨a, b, fun i hi => ?_⟩
    rw [hw, if_neg (by unfold pl; omega)]
    exact c i hi

theorem put_s (ba bm bw fr rt : Nat) (pgs : Nat → List Nat) (page : Int) (pg : List Nat) (w : World) (h : ArS w ba bm bw fr rt pgs) (hg : IsPg pg) (h0 : 1 ≤ page) (h1 : page ≤ 40) :
    Calls Tryz.prog 66 #[.pointer (some ⟨ba, 0, none⟩), .int .i64 page, .agg (nums pg)] w
      fun e w' => e = .returned (.tuple #[]) ∧ Chg [bw] w w' ∧ ArS w' ba bm bw fr rt (upd pgs page.toNat pg) := by
  obtain ⟨p, rfl⟩ := Int.eq_ofNat_of_zero_le (show 0 ≤ page by omega)
  rw [Int.toNat_natCast]
  obtain ⟨ws, hA, hI⟩ := h
  refine (put_w ba bm bw ws pg p w hA hg.len h0 (by omega) (by have := hI.len; unfold pl; omega)).mono ?_
  rintro e w' ⟨rfl, hC, ws', hA', hP⟩
  exact ⟨rfl, hC, ws', hA', hI.put (by omega) (by omega) hg hP⟩

/-- The page's words are valid, wherever this is asked. -/
def ValidP (pg : List Nat) : Prop := ∀ w : World, Calls Tryz.prog 64 #[.agg (nums pg)] w fun e w' => e = .returned (.bool true) ∧ Chg [] w w'

theorem nsz {pg : List Nat} (hg : IsPg pg) : (nums pg).size = 128 := by rw [nums_size]; exact hg.len

set_option maxRecDepth 100000 in
set_option maxHeartbeats 1000000 in
theorem write_s (ba bm bw fr rt : Nat) (pgs : Nat → List Nat) (page : Int) (pg : List Nat) (w : World) (h : ArS w ba bm bw fr rt pgs) (hg : IsPg pg) (hV : ValidP pg) (h0 : 1 ≤ page) (h1 : page ≤ 40) (hu : usedB pgs page.toNat = true) (hr : rt ≤ 40) :
    Calls Tryz.prog 180 #[.pointer (some ⟨ba, 0, none⟩), .int .i64 page, .agg (nums pg)] w
      fun e w' => e = .returned (.int .i64 0) ∧ Chg [bw] w w' ∧ ArS w' ba bm bw fr rt (upd pgs page.toNat pg) := by
  have hsz := nsz hg
  have hlt := h.lt
  go_enter Tryz.func180, Tryz.ntmps180
  go_wp2_with (first
    | (go_at_call 67; refine (busy_s ba bm bw fr rt pgs page false _ (h.ext (by (with_reducible repeat (first | exact Chg.refl _ _ | assumption | refine Chg.alloc ?_ _ | refine Chg.drewN ?_ _ | refine Chg.drew ?_ | refine Chg.set ?_ _ (by simp <;> omega) _ | refine Chg.nil ?_ (by assumption))))) h0 h1 hu hr (fun h => by cases h)).mono ?_; rintro e w1 ⟨rfl, hC1⟩; have hB1 := (Blk.new w 72 (nums pg)).ext hC1)
    | (refine wpList_load_row rfl 72 (.tmp 5) rfl w.heap.size rfl 72 (nums pg) (0, 0) _ hB1 Tryz.underlying72 rfl (hsz ▸ (by kernel_rfl)) ?_)
    | (go_at_call 64; refine (hV _).mono ?_; rintro e w2 ⟨rfl, hC2⟩; have hB2 := hB1.ext hC2; clear hB1; have hB1 := hB2; have hA2 : ArS w2 ba bm bw fr rt pgs := (h.ext (by (with_reducible repeat (first | exact Chg.refl _ _ | assumption | refine Chg.alloc ?_ _ | refine Chg.drewN ?_ _ | refine Chg.drew ?_ | refine Chg.set ?_ _ (by simp <;> omega) _ | refine Chg.nil ?_ (by assumption))))).ext hC2)
    | (go_at_call 66; refine (put_s ba bm bw fr rt pgs page pg _ hA2 hg h0 h1).mono ?_; rintro e w3 ⟨rfl, hC3, hA3⟩))
  go_ret
  exact ⟨rfl, ((((Chg.refl _ _).alloc _).nil hC1).nil hC2).trans hC3, hA3⟩

theorem IsAr.head1 {ws : List Nat} {fr rt : Nat} {pgs : Nat → List Nat} (h : IsAr ws fr rt pgs) (v : Nat) : IsAr (ws.set 1 v) v rt pgs := h.setHead (k := 1) (v := v) (by omega) (by omega)

set_option maxRecDepth 100000 in
set_option maxHeartbeats 1000000 in
theorem alloc_s (ba bm bw fr rt : Nat) (pgs : Nat → List Nat) (pg : List Nat) (w : World) (h : ArS w ba bm bw fr rt pgs) (hg : IsPg pg) (hV : ValidP pg) (h0 : 1 ≤ fr) (h1 : fr ≤ 40) :
    Calls Tryz.prog 25 #[.pointer (some ⟨ba, 0, none⟩), .agg (nums pg)] w
      fun e w' => e = .returned (.tuple #[.int .i64 fr, .int .i64 0]) ∧ Chg [bw] w w' ∧ ArS w' ba bm bw (wd (pgs fr) 10).toNat rt (upd pgs fr pg) := by
  have hsz := nsz hg
  have hlt := h.lt
  have hne : ((fr : Int) == 0) = false := beq_eq_false_iff_ne.2 (by omega)
  have hbwlt := hlt.2.2
  have hbwne : w.heap.size ≠ bw := by omega
  go_enter Tryz.func25, Tryz.ntmps25
  go_wp2_with (first
    | (go_at_call 63; (refine (none_s ba bm bw fr rt pgs _ (h.ext (by (with_reducible repeat (first | exact Chg.refl _ _ | assumption | refine Chg.alloc ?_ _ | refine Chg.drewN ?_ _ | refine Chg.drew ?_ | refine Chg.set ?_ _ (by simp <;> omega) _ | refine Chg.nil ?_ (by assumption)))))).mono ?_); rintro e w1 ⟨rfl, rfl⟩; have hB1 := Blk.new w 72 (nums pg))
    | (refine wpList_load_row rfl 72 (.tmp 3) rfl w.heap.size rfl 72 (nums pg) (0, 0) _ hB1 Tryz.underlying72 rfl (hsz ▸ (by kernel_rfl)) ?_)
    | (go_at_call 64; (refine (hV _).mono ?_; rintro e w2 ⟨rfl, hC2⟩; have hA2' : ArS w2 ba bm bw fr rt pgs := (h.ext (by (with_reducible repeat (first | exact Chg.refl _ _ | assumption | refine Chg.alloc ?_ _ | refine Chg.drewN ?_ _ | refine Chg.drew ?_ | refine Chg.set ?_ _ (by simp <;> omega) _ | refine Chg.nil ?_ (by assumption))))).ext hC2; obtain ⟨ws, hA2, hI2⟩ := hA2'; have hB2 := hB1.ext hC2; have hl2 := hI2.len; have hw2 := hI2.w1; have hc2 := hA2.cell; have hb2a : wd ws 1 ≤ 40 := (by omega); have hb2b : 0 ≤ wd ws 1 := (by omega); have Hw2 := Lib.hid hw2; clear hw2))
    | (go_at_call 65; refine (get_w bm bw ws 1 _ hA2.m (by omega) (by omega)).mono ?_; rintro e w3 ⟨rfl, hC3⟩; have hA3 := hA2.ext hC3; have hc3 := hA3.cell; have hB3 := hB2.ext hC3; rw [show (1 : Int).toNat = 1 from rfl, Hw2.out]))
  have hpg := hI2.pg fr (by omega) (by omega)
  have hwd : wd ws (pl fr 10).toNat = wd (pgs fr) 10 := hpg.2.2 10 (by omega)
  have hfit : pl fr 10 < ws.length := pl_lt hI2 (by omega) (by omega)
  have hS : ∀ W, Chg [bw] w3 W → W.cell? ⟨ba, 0, none⟩ = some (.pointer (some ⟨bm, 0, none⟩)) ∧ Chg [bw] w3 W := fun W hW => ⟨by rw [hW.cell hA3.lt (by simpa using hA3.ne2)]; exact hA3.cell, hW⟩
  go_region_held3 (fun W => W.cell? ⟨ba, 0, none⟩ = some (.pointer (some ⟨bm, 0, none⟩)) ∧ Chg [bw] w3 W) (first | exact hS _ ((Chg.refl _ _).drew) | exact hS _ ((‹_ ∧ Chg [bw] w3 _›.2).nil (by assumption)) | exact hS _ ((‹_ ∧ Chg [bw] w3 _›.2).trans (by assumption)) | exact ‹_ ∧ Chg [bw] w3 _›) (first | (go_at_call 58; refine (place_w fr 10 _ (by omega) (by omega) (by omega) (by omega)).mono ?_; rintro e w4 ⟨rfl, rfl⟩) | (go_at_call 65; refine (get_w bm bw ws _ _ (hA3.m.ext ((Chg.refl _ _).drew)) (by unfold pl; omega) hfit).mono ?_; rintro e w4 ⟨rfl, hC4⟩) | (go_at_call 60; refine (set_w bm bw ws 1 _ _ ((hA3.m.ext ((Chg.refl _ _).drew)).ext hC4) (by omega) (by omega) (wd_nn _ _)).mono ?_; rintro e w5 ⟨rfl, hC5, hM5⟩))
  have hA4 : ArW w4 ba bm bw ws := (hA3.ext ((Chg.refl _ _).drew)).ext hC4
  have hA5 : ArS w5 ba bm bw (wd (pgs fr) 10).toNat rt pgs := ⟨_, hA4.into hC5 hM5, hI2.head1 _⟩
  have hB5 := ((hB3.drew).ext hC4).chg hC5 (by simpa using hbwne)
  go_wp2_with (first
    | (refine wpList_load_row rfl 72 (.tmp 3) rfl w.heap.size rfl 72 (nums pg) (0, 0) _ hB5 Tryz.underlying72 rfl (hsz ▸ (by kernel_rfl)) ?_)
    | (go_at_call 66; refine (put_s ba bm bw _ rt pgs fr pg _ hA5 hg (by omega) (by omega)).mono ?_; rintro e w6 ⟨rfl, hC6, hA6⟩))
  go_ret2
  rw [Int.toNat_natCast] at hA6
  exact ⟨rfl, (((((((Chg.refl _ _).alloc _).nil hC2).nil hC3).drew).nil hC4).trans hC5).trans hC6, hA6⟩

/-- A page of zeros. -/
def z128 : List Nat := List.replicate 128 0
theorem z128_len : z128.length = 128 := by simp [z128]
theorem z128_wd (i : Nat) : wd z128 i = 0 := by unfold wd z128; rw [List.getD, List.getElem?_replicate]; split <;> rfl

set_option maxRecDepth 100000 in
set_option maxHeartbeats 1000000 in
theorem free_s (ba bm bw fr rt : Nat) (pgs : Nat → List Nat) (page : Int) (w : World) (h : ArS w ba bm bw fr rt pgs) (hf : fr ≤ 40) (h0 : 1 ≤ page) (h1 : page ≤ 40) :
    Calls Tryz.prog 201 #[.pointer (some ⟨ba, 0, none⟩), .int .i64 page] w
      fun e w' => e = .returned (.tuple #[]) ∧ Chg [bw] w w' ∧ ArS w' ba bm bw page.toNat rt (upd pgs page.toNat (freePg fr)) := by
  have hlt := h.lt
  obtain ⟨ws, hA, hI⟩ := id h
  have hl := hI.len
  have hc := hA.cell
  have Hw := Lib.hid hI.w1
  have hsz := nsz (freePg_is fr)
  have hez : (nums (z128)).setIfInBounds 10 (.int .u64 (fr : Int)) = nums (freePg fr) := by
    apply Array.ext_getElem?
    intro i
    rw [Array.getElem?_setIfInBounds]
    by_cases e : 10 = i
    · subst e
      rw [if_pos rfl, if_pos (by rw [nums_size, z128_len]; omega), nums_get (by rw [(freePg_is fr).len]; omega), freePg_wd, if_pos rfl]
    · rw [if_neg e]
      by_cases hi : i < 128
      · rw [nums_get (by rw [z128_len]; exact hi), nums_get (by rw [(freePg_is fr).len]; omega), freePg_wd, if_neg (fun h => e h.symm)]
        rw [z128_wd]
      · rw [Array.getElem?_eq_none (by rw [nums_size, z128_len]; omega), Array.getElem?_eq_none (by rw [nums_size, (freePg_is fr).len]; omega)]
  have Hez := Lib.hid hez
  clear hez
  go_enter Tryz.func201, Tryz.ntmps201
  go_wp2_with (first
    | (go_at_call 65; refine (get_w bm bw ws 1 _ (hA.m.ext (by (with_reducible repeat (first | exact Chg.refl _ _ | assumption | refine Chg.alloc ?_ _ | refine Chg.drewN ?_ _ | refine Chg.drew ?_ | refine Chg.set ?_ _ (by simp <;> omega) _ | refine Chg.nil ?_ (by assumption))))) (by omega) (by omega)).mono ?_; rintro e w1 ⟨rfl, hC1⟩; rw [show (1 : Int).toNat = 1 from rfl, Hw.out]; obtain ⟨hZ, hCC⟩ : Blk w1 w.heap.size 72 (nums (z128)) ∧ Chg [] w w1 := ⟨(Blk.new w 72 _).ext hC1, ((Chg.refl _ _).alloc _).nil hC1⟩; clear hC1; have hz1 := hZ.cell; have hz2 := hZ.frozen; have hz3 : (nums z128)[10]? = some (.int .u64 0) := (by rw [nums_get (by rw [z128_len]; omega), z128_wd]); have hA1 := h.ext hCC; have hZ1 := hZ.set_ 10 (.int .u64 (fr : Int)); rw [Hez.out] at hZ1)
    | (refine wpList_load_row rfl 72 (.tmp 4) rfl w.heap.size rfl 72 (nums (freePg fr)) (0, 0) _ hZ1 Tryz.underlying72 rfl (hsz ▸ (by kernel_rfl)) ?_)
    | (go_at_call 66; refine (put_s ba bm bw fr rt pgs page _ _ (h.ext ?c1) (freePg_is fr) h0 h1).mono ?_; rotate_left; rintro e w2 ⟨rfl, hC2, hA2⟩; have hc2 := hA2.cell; obtain ⟨ws2, hX2, hI2⟩ := id hA2; have hl2 := hI2.len)
    | (go_at_call 60; refine (set_w bm bw ws2 1 _ _ hX2.m (by omega) (by omega) (by omega)).mono ?_; rintro e w3 ⟨rfl, hC3, hM3⟩))
  case c1 => (with_reducible repeat (first | exact Chg.refl _ _ | assumption | refine Chg.alloc ?_ _ | refine Chg.drewN ?_ _ | refine Chg.drew ?_ | refine Chg.set ?_ _ (by simp <;> omega) _ | refine Chg.nil ?_ (by assumption)))
  go_end0
  refine ⟨rfl, ?_, _, hX2.into hC3 hM3, hI2.head1 _⟩
  exact ((hCC.set _ (by simp) _).mono (T := []) (by simp) |>.on hC2 (by simp)).trans hC3

set_option maxRecDepth 100000 in
set_option maxHeartbeats 1000000 in
theorem release_s (ba bm bw fr rt : Nat) (pgs : Nat → List Nat) (page : Int) (w : World) (h : ArS w ba bm bw fr rt pgs) (hf : fr ≤ 40) (h0 : 1 ≤ page) (h1 : page ≤ 40) (hu : usedB pgs page.toNat = true) (hr : rt ≤ 40) (hne : (rt : Int) ≠ page) :
    Calls Tryz.prog 182 #[.pointer (some ⟨ba, 0, none⟩), .int .i64 page] w
      fun e w' => e = .returned (.int .i64 0) ∧ Chg [bw] w w' ∧ ArS w' ba bm bw page.toNat rt (upd pgs page.toNat (freePg fr)) := by
  go_enter Tryz.func182, Tryz.ntmps182
  go_wp2_with (first
    | (go_at_call 67; refine (busy_s ba bm bw fr rt pgs page true _ h h0 h1 hu hr (fun _ => hne)).mono ?_; rintro e w1 ⟨rfl, hC1⟩)
    | (go_at_call 201; refine (free_s ba bm bw fr rt pgs page _ (h.ext hC1) hf h0 h1).mono ?_; rintro e w2 ⟨rfl, hC2, hA2⟩))
  go_ret
  exact ⟨rfl, ((Chg.refl _ _).nil hC1).trans hC2, hA2⟩

end Go.Proofs.YtpcaadipejnllaaGreatDoor

/- A new memory; an arena made of it; the counts. -/
set_option linter.unusedVariables false
set_option linter.unusedSimpArgs false
namespace Go.Proofs.YtpcaadipejnllaaGreatDoor
open Go.RowKit

def zws : List Nat := List.replicate 5136 0
theorem zws_len : zws.length = 5136 := List.length_replicate
theorem zws_wd (i : Nat) : wd zws i = 0 := by unfold wd zws; rw [List.getD, List.getElem?_replicate]; split <;> rfl
theorem made_zws : (madeCells (Value.int .u64 0).cells (5136 * 1)).toList = (nums zws).toList := by
  congr 1
  apply Array.ext
  · rw [size_madeCells, nums_size, zws_len]
  · intro i h1 h2
    have h3 : (nums zws)[i]? = some (.int .u64 (wd zws i)) := nums_get (by rw [nums_size] at h2; exact h2)
    rw [zws_wd, Array.getElem?_eq_getElem h2] at h3
    injection h3 with h3
    rw [h3]
    simp [madeCells, Value.cells, Nat.mod_one]

set_option maxRecDepth 100000 in
set_option maxHeartbeats 1000000 in
theorem mem_new (w : World) :
    Calls Tryz.prog 22 #[.int .i64 5136] w fun e w' => ∃ bm bw, e = .returned (.tuple #[.pointer (some ⟨bm, 0, none⟩), .int .i64 0]) ∧ w.heap.size ≤ bm ∧ w.heap.size ≤ bw ∧ MemW w' bm bw zws ∧ Chg [] w w' := by
  obtain ⟨i0, hi, hz0, hz1, hz2⟩ := info_parts info60
  go_enter Tryz.func22, Tryz.ntmps22
  go_wp2_with (first
    | (at_make; refine wpList_make_full _ rfl _ _ 118 rfl w.heap.size 60 i0 (.int .u64 0) 1 Tryz.underlying118 hi hz0 hz1 .i64 .i64 5136 5136 5136 rfl rfl rfl rfl (by rw [hz2]; omega) (by unfold maxLen; omega) (Nat.le_refl _) ?_; intro w1 hown hg; rw [made_zws] at hown))
  go_ret2
  have hC : Chg [] w w1 := (Chg.refl _ _).grown hg (by simp)
  have hown2 := own_ext hown ((Chg.refl [] w1).alloc (.cells #[.slice (some ⟨w.heap.size, 0, none⟩) 5136 5136] 120))
  have h51 := zws_len
  obtain ⟨g, hgb, hM⟩ := MemW.of_own (ws := zws) (by rw [h51]; exact hown2) (Blk.new w1 120 _) (by omega) (by omega)
  exact ⟨_, g, rfl, hC.size, hgb, hM, hC.alloc _⟩

set_option maxRecDepth 100000 in
set_option maxHeartbeats 1000000 in
theorem mem_len (bm bw : Nat) (ws : List Nat) (w : World) (h : MemW w bm bw ws) :
    Calls Tryz.prog 57 #[.pointer (some ⟨bm, 0, none⟩)] w fun e w' => e = .returned (.int .i64 ws.length) ∧ w = w' := by
  obtain ⟨cap, hc1, hc2, hc⟩ := h.head
  have hp := h.pos
  go_enter Tryz.func57, Tryz.ntmps57
  go_wp2_with (first
    | (go_at_call 100; refine (mem_zero_no bm bw ws.length cap _ hp hc).mono ?_; rintro e w1 ⟨rfl, rfl⟩))
  go_ret
  exact ⟨rfl, rfl⟩

set_option maxRecDepth 100000 in
set_option maxHeartbeats 1000000 in
theorem counts_s (ba bm bw fr rt : Nat) (pgs : Nat → List Nat) (w : World) (h : ArS w ba bm bw fr rt pgs) :
    Calls Tryz.prog 128 #[.pointer (some ⟨ba, 0, none⟩)] w fun e w' => ∃ a b c : Nat, e = .returned (.tuple #[.int .i64 40, .int .i64 a, .int .i64 b, .int .i64 c]) ∧ Chg [] w w' := by
  go_enter Tryz.func128, Tryz.ntmps128
  go_wp2_with (first | (go_at_call 63; refine (none_s ba bm bw fr rt pgs _ h).mono ?_; rintro e w1 ⟨rfl, rfl⟩))
  go_loopw [3, 4, 5, 6] (fun x y z i wr => ∃ k a b c : Nat, k ≤ 40 ∧ a ≤ k ∧ b ≤ k ∧ c ≤ k ∧ x = .int .i64 a ∧ y = .int .i64 b ∧ z = .int .i64 c ∧ i = .int .i64 ((k : Int) + 1) ∧ Chg [] w wr) (fun _ _ _ i _ => 41 - (intOf i).toNat)
  case atStart => exact ⟨0, 0, 0, 0, by omega, by omega, by omega, by omega, rfl, rfl, rfl, rfl, Chg.refl _ _⟩
  case round =>
    obtain ⟨k, a, b, c, hk, ha, hb, hc, rfl, rfl, rfl, rfl, hC⟩ := hrel
    have hA := h.ext hC
    by_cases hlt : k < 40
    · go_wp2_with (first
        | (go_at_call 133; refine (pages_s ba bm bw fr rt pgs _ hA).mono ?_; rintro e w1 ⟨rfl, hC1⟩; have hA1 := hA.ext hC1; have hCC := hC.trans hC1)
        | (go_at_call 141; refine (kind_s ba bm bw fr rt pgs _ _ hA1 (by omega) (by omega)).mono ?_; rintro e w2 ⟨rfl, hC2⟩; have hA2 := hA1.ext hC2; have hCD := hCC.trans hC2; clear hA1 hCC hC2; have hA1 := hA2; have hCC := hCD; clear hA2 hCD)
        | (go_at_call 108; refine (used_s ba bm bw fr rt pgs _ _ hA1 (by omega) (by omega)).mono ?_; rintro e w2 ⟨rfl, hC2⟩; have hCD := hCC.trans hC2; clear hA1 hCC hC2; have hCC := hCD; clear hCD))
      all_goals
        go_roundw
        case rel => first
          | exact ⟨k + 1, a + 1, b, c, by omega, by omega, by omega, by omega, by go_num, rfl, rfl, by go_num, hCC⟩
          | exact ⟨k + 1, a, b + 1, c, by omega, by omega, by omega, by omega, rfl, by go_num, rfl, by go_num, hCC⟩
          | exact ⟨k + 1, a, b, c + 1, by omega, by omega, by omega, by omega, rfl, rfl, by go_num, by go_num, hCC⟩
          | exact ⟨k + 1, a, b, c, by omega, by omega, by omega, by omega, rfl, rfl, rfl, by go_num, hCC⟩
        case measure => simp [intOf]; omega
    · go_wp2_with (first
        | (go_at_call 133; refine (pages_s ba bm bw fr rt pgs _ hA).mono ?_; rintro e w1 ⟨rfl, hC1⟩; have hA1 := hA.ext hC1; have hCC := hC.trans hC1; clear hA hC hC1; have hA := hA1; have hC := hCC; clear hA1 hCC))
      exact bodyPost_ret (v := .tuple #[.int .i64 40, .int .i64 a, .int .i64 b, .int .i64 c]) (by simp [results, Tryz.results128, go_sem]) rfl ⟨a, b, c, rfl, hC⟩

/-- The words while the free pages are linked, up to one. -/
def Fmt (ws : List Nat) (k : Nat) : Prop :=
  ws.length = 5136 ∧ wd ws 0 = 40 ∧ wd ws 1 = 1 ∧ wd ws 3 = 0 ∧
  ∀ p i : Nat, 1 ≤ p → p ≤ 40 → i < 128 → wd ws (pl p i).toNat = if i = 10 ∧ p < k then ((p : Int) + 1) else 0

theorem Fmt.step {ws : List Nat} {k : Nat} (h : Fmt ws k) (h1 : 1 ≤ k) (h2 : k < 40) : Fmt (ws.set (pl k 10).toNat (k + 1)) (k + 1) := by
  obtain ⟨hl, h0, h3, h4, h5⟩ := h
  have hs : ∀ j, wd (ws.set (pl k 10).toNat (k + 1)) j = if (pl k 10).toNat = j then ((k + 1 : Nat) : Int) else wd ws j := fun j => wd_set ws _ j _ (by unfold pl; omega)
  refine ⟨by simpa using hl, by rw [hs, if_neg (by unfold pl; omega)]; exact h0, by rw [hs, if_neg (by unfold pl; omega)]; exact h3, by rw [hs, if_neg (by unfold pl; omega)]; exact h4, fun p i hp hp2 hi => ?_⟩
  rw [hs, h5 p i hp hp2 hi]
  by_cases e : p = k ∧ i = 10
  · obtain ⟨rfl, rfl⟩ := e
    rw [if_pos (show (pl (p : Int) 10).toNat = (pl (p : Int) ((10 : Nat) : Int)).toNat from rfl), if_pos (by omega)]
    omega
  · rw [if_neg (by unfold pl; omega)]
    by_cases c : i = 10 ∧ p < k
    · rw [if_pos c, if_pos (by omega)]
    · rw [if_neg c, if_neg (by omega)]

theorem Fmt.is {ws : List Nat} (h : Fmt ws 40) : IsAr ws 1 0 (fun p => freePg (if p < 40 then p + 1 else 0)) := by
  obtain ⟨hl, h0, h3, h4, h5⟩ := h
  refine ⟨hl, h0, h3, h4, fun p hp hp2 => ⟨(freePg_is _).len, (freePg_is _).z, fun i hi => ?_⟩⟩
  rw [h5 p i hp hp2 hi, freePg_wd]
  by_cases e : i = 10
  · subst e
    by_cases c : p < 40
    · rw [if_pos (by omega), if_pos rfl, if_pos c]; omega
    · rw [if_neg (by omega), if_pos rfl, if_neg c]; rfl
  · rw [if_neg (by omega), if_neg e]

set_option maxRecDepth 100000 in
set_option maxHeartbeats 1000000 in
theorem format_w (bm bw : Nat) (w : World) (h : MemW w bm bw zws) :
    Calls Tryz.prog 23 #[.pointer (some ⟨bm, 0, none⟩), .int .i64 40] w
      fun e w' => ∃ ba bm' bw', e = .returned (.tuple #[.pointer (some ⟨ba, 0, none⟩), .int .i64 0]) ∧ w.heap.size ≤ ba ∧ w.heap.size ≤ bm' ∧ w.heap.size ≤ bw' ∧ ArS w' ba bm' bw' 1 0 (fun p => freePg (if p < 40 then p + 1 else 0)) ∧ Chg [] w w' := by
  have hl := zws_len
  have Hl := Lib.hid hl
  clear hl
  go_enter Tryz.func23, Tryz.ntmps23
  go_wp2_with (first
    | (go_at_call 57; refine (mem_len bm bw zws _ h).mono ?_; rintro e w1 ⟨rfl, rfl⟩; rw [Hl.out])
    | (go_at_call 58; refine (place_v 41 0 _ (by omega) (by omega) (by omega) (by omega)).mono ?_; rintro e w1 ⟨rfl, rfl⟩; rw [show pl 41 0 = 5136 from rfl])
    | (go_at_call 59; refine (mem_copy bm bw zws _ h).mono ?_; rintro e w1 ⟨bm', bw', rfl, hb1, hb2, hM, hC⟩))
  obtain ⟨g6, hg6⟩ : ∃ g, g = w1.heap.size := ⟨_, rfl⟩
  have hB0 : Blk (w1.alloc (Obj.cells #[Value.pointer (some { block := bm', off := 0 })] 123)) g6 123 #[.pointer (some ⟨bm', 0, none⟩)] := hg6 ▸ Blk.new w1 123 _
  have hge : w.heap.size ≤ g6 := by rw [hg6]; exact hC.size
  have hCC := hC.alloc (Obj.cells #[Value.pointer (some { block := bm', off := 0 })] 123)
  have hMM := hM.ext ((Chg.refl [] w1).alloc (Obj.cells #[Value.pointer (some { block := bm', off := 0 })] 123))
  rw [← hg6]
  generalize w1.alloc (Obj.cells #[Value.pointer (some { block := bm', off := 0 })] 123) = w2 at *
  clear hM hg6
  go_loopw [34] (fun i wr => ∃ k : Nat, k ≤ 5136 ∧ i = .int .i64 k ∧ Chg [] w wr ∧ Blk wr g6 123 #[.pointer (some ⟨bm', 0, none⟩)] ∧ ∃ ws, MemW wr bm' bw' ws ∧ ws.length = 5136 ∧ ∀ j, wd ws j = 0) (fun i _ => 5136 - (intOf i).toNat)
  case atStart => exact ⟨0, by omega, rfl, hCC, hB0, zws, hMM, Hl.out, zws_wd⟩
  case round =>
    clear hCC hB0 hMM
    obtain ⟨k, hk, rfl, hC2, hB, ws, hM, hwl, hw0⟩ := hrel
    have hb := hB.cell
    obtain ⟨_, _, _, hMw, _⟩ := id hM.hd
    have hne : g6 ≠ bw' := hB.ne_ hMw (by decide)
    have Hw0 := Lib.hid hw0
    clear hw0 hMw
    by_cases hlt : k < 5136
    · go_wp2_with (first
        | (go_at_call 60; refine (set_w bm' bw' ws k 0 _ hM (by omega) (by omega) (by omega)).mono ?_; rintro e w3 ⟨rfl, hC3, hM3⟩))
      go_roundw
      case rel =>
        refine ⟨k + 1, by omega, by go_num, hC2.on hC3 (by simpa using hb2), hB.chg hC3 (by simpa using hne), _, hM3, by simpa using hwl, fun j => ?_⟩
        rw [wd_set _ _ _ _ (by omega), Hw0.out]
        simp
      case measure => simp [intOf]; omega
    · have hwl' := hwl
      go_wp2_with (first
        | (go_at_call 60; refine (set_w bm' bw' _ _ _ _ hM (by omega) (by (try simp only [List.length_set]); omega) (by omega)).mono ?_; rintro e w3 ⟨rfl, hC3, hM3⟩; have hB3 := hB.chg hC3 (by simpa using hne); have hb3 := hB3.cell; have hC4 := hC2.on hC3 (by simpa using hb2); clear hC2 hC3 hM hB hb; have hM := hM3; have hB := hB3; have hb := hb3; have hC2 := hC4; clear hM3 hB3 hb3 hC4))
      have hF : Fmt (((ws.set (Int.toNat 0) (Int.toNat 40)).set (Int.toNat 1) (Int.toNat 1)).set (Int.toNat 4) (Int.toNat 1)) 1 := by
        have hw0 := Hw0.out
        have hs : ∀ j, wd (((ws.set 0 40).set 1 1).set 4 1) j = if 4 = j then 1 else if 1 = j then 1 else if 0 = j then 40 else 0 := fun j => by
          rw [wd_set _ _ _ _ (by simp; omega), wd_set _ _ _ _ (by simp; omega), wd_set _ _ _ _ (by omega), hw0]; rfl
        refine ⟨by simpa using hwl, (hs 0).trans rfl, (hs 1).trans rfl, (hs 3).trans rfl, fun p i hp hp2 hi => ?_⟩
        refine (hs _).trans ?_
        rw [if_neg (by unfold pl; omega), if_neg (by unfold pl; omega), if_neg (by unfold pl; omega), if_neg (by omega)]
      generalize ((ws.set (Int.toNat 0) (Int.toNat 40)).set (Int.toNat 1) (Int.toNat 1)).set (Int.toNat 4) (Int.toNat 1) = ws1 at *
      clear Hw0 hwl
      go_loopw [8] (fun i wr2 => ∃ q : Nat, 1 ≤ q ∧ q ≤ 40 ∧ i = .int .i64 q ∧ Chg [] w wr2 ∧ Blk wr2 g6 123 #[.pointer (some ⟨bm', 0, none⟩)] ∧ ∃ ws2, MemW wr2 bm' bw' ws2 ∧ Fmt ws2 q) (fun i _ => 40 - (intOf i).toNat)
      case atStart => exact ⟨1, by omega, by omega, rfl, hC2, hB, ws1, hM, hF⟩
      case round =>
        clear hC2 hB hM hF hb
        obtain ⟨q, hq1, hq, rfl, hC5, hB5, ws2, hM5, hF5⟩ := hrel
        have hb5 := hB5.cell
        have hl5 := hF5.1
        by_cases hlt : q < 40
        · have hfit : pl q 10 < ws2.length := by unfold pl; omega
          go_wp2
          refine wp_region_tail 6 (by kernel_rfl) (by kernel_rfl) ?_
          simp only [List.take_succ_cons, List.take_zero, List.drop_succ_cons, List.drop_zero]
          repeat (first | still_step | still_call (place_w q 10 _ (by omega) (by omega) (by omega) (by omega)))
          refine wpStill_nil ?_
          go_wp2_with (go_at_call 60; refine (set_w bm' bw' ws2 _ _ _ (hM5.ext ?c1) (by unfold pl; omega) hfit (by omega)).mono ?_; rotate_left; rintro e w6 ⟨rfl, hC6, hM6⟩)
          case c1 => (with_reducible repeat (first | exact Chg.refl _ _ | assumption | refine Chg.alloc ?_ _ | refine Chg.drewN ?_ _ | refine Chg.drew ?_ | refine Chg.set ?_ _ (by simp <;> omega) _ | refine Chg.nil ?_ (by assumption)))
          go_roundw
          case rel =>
            refine ⟨q + 1, by omega, by omega, by go_num, (hC5.drew).on hC6 (by simpa using hb2), (hB5.drew).chg hC6 (by simpa using hne), _, hM6, ?_⟩
            have := hF5.step hq1 hlt
            rw [show ((q : Int) + 1).toNat = q + 1 by omega]
            exact this
          case measure => simp [intOf]; omega
        · obtain rfl : q = 40 := by omega
          go_wp2
          go_ret2
          have hC6 : Chg [] _ _ := (Chg.refl [] wr).alloc (.cells #[.pointer (some ⟨bm', 0, none⟩)] 126)
          exact ⟨_, bm', bw', rfl, hC5.size, hb1, hb2, ⟨ws2, ⟨Blk.new _ 126 _, hM5.ext hC6⟩, hF5.is⟩, hC5.alloc _⟩

end Go.Proofs.YtpcaadipejnllaaGreatDoor

/-
  DERIVED: THE SHELF's CONTRACTS AT THIS DUMP, IN PLAIN WORDS (tools/lay-plain.mjs out of 'YtpcaadipejnllaaGreatDoorShelf.lean', which tools/lay-shelf.mjs wrote): THE SAME DECLARATIONS UNDER THE SAME NAMES: 'import', 'namespace', 'open', 'def', 'theorem' AND NOTHING ELSE: no command of the shelf's: FOR A HAND-IN. Each laying: the table of numbers ('.._ren') and one theorem, a field a fact of the dump's own or the kernel's comparison; each contract: ONE APPLICATION.
-/
namespace Go.Proofs
open Go.Shelf
def Tryz.lays213_ren : Go.Shelf.Ren := ⟨fun | 213 => 135 | 265 => 168 | n => n, fun | 9 => 9 | 3 => 3 | n => n, fun | n => n⟩
theorem Tryz.lays213 : Go.Proofs.Lays.n213 Tryz.prog Tryz.lays213_ren := {
  mixed := by kernel_rfl
  f213 := Tryz.func135.trans (congrArg some (by kernel_rfl))
  f265 := Tryz.func168.trans (congrArg some (by kernel_rfl))
  t3 := Tryz.underlying3
  a3 := Tryz.isAgg3
  z3 := Tryz.sizeOf3
  v3 := Tryz.zeroValue3
  t9 := Tryz.underlying9
  a9 := Tryz.isAgg9
  z9 := Tryz.sizeOf9
  v9 := Tryz.zeroValue9 }
open Go.RowKit in
theorem Tryz.bytealg_CompareString (a b : ByteArray) (w : World) :
    Calls Tryz.prog 135 #[.string a, .string b] w fun e w' => e = .returned (.int .i64 (Lib.compareBytes a.data.toList b.data.toList)) ∧ w' = w := Any.bytealg_CompareString Tryz.lays213 a b w
def Tryz.lays106_ren : Go.Shelf.Ren := ⟨fun | 106 => 103 | 213 => 135 | 265 => 168 | n => n, fun | 9 => 9 | 3 => 3 | n => n, fun | n => n⟩
theorem Tryz.lays106 : Go.Proofs.Lays.n106 Tryz.prog Tryz.lays106_ren := {
  mixed := by kernel_rfl
  f106 := Tryz.func103.trans (congrArg some (by kernel_rfl))
  f213 := Tryz.func135.trans (congrArg some (by kernel_rfl))
  f265 := Tryz.func168.trans (congrArg some (by kernel_rfl))
  t3 := Tryz.underlying3
  a3 := Tryz.isAgg3
  z3 := Tryz.sizeOf3
  v3 := Tryz.zeroValue3
  t9 := Tryz.underlying9
  a9 := Tryz.isAgg9
  z9 := Tryz.sizeOf9
  v9 := Tryz.zeroValue9 }
open Go.RowKit in
theorem Tryz.strings_Compare (a b : ByteArray) (w : World) :
    Calls Tryz.prog 103 #[.string a, .string b] w fun e w' => e = .returned (.int .i64 (Lib.compareBytes a.data.toList b.data.toList)) ∧ w' = w := Any.strings_Compare Tryz.lays106 a b w
def Tryz.lays143_ren : Go.Shelf.Ren := ⟨fun | 143 => 127 | 219 => 162 | 217 => 187 | 225 => 188 | 224 => 189 | 267 => 190 | 266 => 204 | 314 => 205 | n => n, fun | 9 => 9 | 3 => 3 | 4 => 4 | 5 => 5 | 46 => 203 | 146 => 285 | 51 => 284 | n => n, fun | 1 => 0 | n => n⟩
theorem Tryz.lays143 : Go.Proofs.Lays.n143 Tryz.prog Tryz.lays143_ren := {
  mixed := by kernel_rfl
  f143 := Tryz.func127.trans (congrArg some (by kernel_rfl))
  f217 := Tryz.func187.trans (congrArg some (by kernel_rfl))
  f219 := Tryz.func162.trans (congrArg some (by kernel_rfl))
  f224 := Tryz.func189.trans (congrArg some (by kernel_rfl))
  f225 := Tryz.func188.trans (congrArg some (by kernel_rfl))
  f266 := Tryz.func204.trans (congrArg some (by kernel_rfl))
  f267 := Tryz.func190.trans (congrArg some (by kernel_rfl))
  f314 := Tryz.func205.trans (congrArg some (by kernel_rfl))
  t3 := Tryz.underlying3
  a3 := Tryz.isAgg3
  z3 := Tryz.sizeOf3
  v3 := Tryz.zeroValue3
  t4 := Tryz.underlying4
  a4 := Tryz.isAgg4
  z4 := Tryz.sizeOf4
  v4 := Tryz.zeroValue4
  t5 := Tryz.underlying5
  a5 := Tryz.isAgg5
  z5 := Tryz.sizeOf5
  v5 := Tryz.zeroValue5
  t9 := Tryz.underlying9
  a9 := Tryz.isAgg9
  z9 := Tryz.sizeOf9
  v9 := Tryz.zeroValue9
  t46 := Tryz.underlying203
  a46 := Tryz.isAgg203
  z46 := Tryz.sizeOf203
  v46 := Tryz.zeroValue203
  t51 := Tryz.underlying284
  a51 := Tryz.isAgg284
  z51 := Tryz.sizeOf284
  v51 := Tryz.zeroValue284
  t146 := Tryz.underlying285
  a146 := Tryz.isAgg285
  z146 := Tryz.sizeOf285
  v146 := Tryz.zeroValue285
  g1 := by kernel_rfl }
open Go.RowKit Go.Lib in
theorem Tryz.strings_Index_one (s : ByteArray) (c : UInt8) (w : World) :
    Calls Tryz.prog 127 #[.string s, .string ⟨#[c]⟩] w fun e w' => e = .returned (.int .i64 (Lib.indexByte s.data.toList c)) ∧ w' = w := Any.strings_Index_one Tryz.lays143 s c w
open Go.RowKit Go.Lib in
theorem Tryz.strings_Index (s sub : ByteArray) (m : Int) (w : World) (hs : s.size < 4294967281) (hm : w.cell? ⟨0, 0, none⟩ = some (.int .i64 m)) :
    Calls Tryz.prog 127 #[.string s, .string sub] w fun e w' => e = .returned (.int .i64 (Lib.index s.data.toList sub.data.toList)) ∧ w' = w := Any.strings_Index Tryz.lays143 s sub m w hs hm
def Tryz.lays155_ren : Go.Shelf.Ren := ⟨fun | 155 => 112 | 154 => 143 | 138 => 171 | 165 => 172 | 143 => 127 | 166 => 173 | 197 => 174 | 169 => 175 | 195 => 196 | 218 => 197 | 240 => 198 | 241 => 199 | 219 => 162 | 260 => 200 | 276 => 209 | 277 => 210 | 217 => 187 | 225 => 188 | 224 => 189 | 267 => 190 | 266 => 204 | 314 => 205 | n => n, fun | 9 => 9 | 3 => 3 | 4 => 4 | 72 => 257 | 0 => 0 | 76 => 260 | 105 => 262 | 21 => 21 | 5 => 5 | 70 => 255 | 20 => 20 | 37 => 86 | 75 => 259 | 127 => 281 | 164 => 290 | 46 => 203 | 119 => 293 | 139 => 296 | 138 => 295 | 146 => 285 | 51 => 284 | 80 => 264 | n => n, fun | 1 => 0 | 3 => 1 | 4 => 2 | n => n⟩
theorem Tryz.lays155 : Go.Proofs.Lays.n155 Tryz.prog Tryz.lays155_ren := {
  mixed := by kernel_rfl
  f138 := Tryz.func171.trans (congrArg some (by kernel_rfl))
  f143 := Tryz.func127.trans (congrArg some (by kernel_rfl))
  f154 := Tryz.func143.trans (congrArg some (by kernel_rfl))
  f155 := Tryz.func112.trans (congrArg some (by kernel_rfl))
  f165 := Tryz.func172.trans (congrArg some (by kernel_rfl))
  f166 := Tryz.func173.trans (congrArg some (by kernel_rfl))
  f169 := Tryz.func175.trans (congrArg some (by kernel_rfl))
  f195 := Tryz.func196.trans (congrArg some (by kernel_rfl))
  f197 := Tryz.func174.trans (congrArg some (by kernel_rfl))
  f217 := Tryz.func187.trans (congrArg some (by kernel_rfl))
  f218 := Tryz.func197.trans (congrArg some (by kernel_rfl))
  f219 := Tryz.func162.trans (congrArg some (by kernel_rfl))
  f224 := Tryz.func189.trans (congrArg some (by kernel_rfl))
  f225 := Tryz.func188.trans (congrArg some (by kernel_rfl))
  f240 := Tryz.func198.trans (congrArg some (by kernel_rfl))
  f241 := Tryz.func199.trans (congrArg some (by kernel_rfl))
  f260 := Tryz.func200.trans (congrArg some (by kernel_rfl))
  f266 := Tryz.func204.trans (congrArg some (by kernel_rfl))
  f267 := Tryz.func190.trans (congrArg some (by kernel_rfl))
  f276 := Tryz.func209.trans (congrArg some (by kernel_rfl))
  f277 := Tryz.func210.trans (congrArg some (by kernel_rfl))
  f314 := Tryz.func205.trans (congrArg some (by kernel_rfl))
  t0 := Tryz.underlying0
  a0 := Tryz.isAgg0
  z0 := Tryz.sizeOf0
  v0 := Tryz.zeroValue0
  t3 := Tryz.underlying3
  a3 := Tryz.isAgg3
  z3 := Tryz.sizeOf3
  v3 := Tryz.zeroValue3
  t4 := Tryz.underlying4
  a4 := Tryz.isAgg4
  z4 := Tryz.sizeOf4
  v4 := Tryz.zeroValue4
  t5 := Tryz.underlying5
  a5 := Tryz.isAgg5
  z5 := Tryz.sizeOf5
  v5 := Tryz.zeroValue5
  t9 := Tryz.underlying9
  a9 := Tryz.isAgg9
  z9 := Tryz.sizeOf9
  v9 := Tryz.zeroValue9
  t20 := Tryz.underlying20
  a20 := Tryz.isAgg20
  z20 := Tryz.sizeOf20
  v20 := Tryz.zeroValue20
  t21 := Tryz.underlying21
  a21 := Tryz.isAgg21
  z21 := Tryz.sizeOf21
  v21 := Tryz.zeroValue21
  t37 := Tryz.underlying86
  a37 := Tryz.isAgg86
  z37 := Tryz.sizeOf86
  v37 := Tryz.zeroValue86
  t46 := Tryz.underlying203
  a46 := Tryz.isAgg203
  z46 := Tryz.sizeOf203
  v46 := Tryz.zeroValue203
  t51 := Tryz.underlying284
  a51 := Tryz.isAgg284
  z51 := Tryz.sizeOf284
  v51 := Tryz.zeroValue284
  t70 := Tryz.underlying255
  a70 := Tryz.isAgg255
  z70 := Tryz.sizeOf255
  v70 := Tryz.zeroValue255
  t72 := Tryz.underlying257
  a72 := Tryz.isAgg257
  z72 := Tryz.sizeOf257
  v72 := Tryz.zeroValue257
  t75 := Tryz.underlying259
  a75 := Tryz.isAgg259
  z75 := Tryz.sizeOf259
  v75 := Tryz.zeroValue259
  t76 := Tryz.underlying260
  a76 := Tryz.isAgg260
  z76 := Tryz.sizeOf260
  v76 := Tryz.zeroValue260
  t105 := Tryz.underlying262
  a105 := Tryz.isAgg262
  z105 := Tryz.sizeOf262
  v105 := Tryz.zeroValue262
  t119 := Tryz.underlying293
  a119 := Tryz.isAgg293
  z119 := Tryz.sizeOf293
  t127 := Tryz.underlying281
  a127 := Tryz.isAgg281
  z127 := Tryz.sizeOf281
  v127 := Tryz.zeroValue281
  t138 := Tryz.underlying295
  a138 := Tryz.isAgg295
  z138 := Tryz.sizeOf295
  v138 := Tryz.zeroValue295
  t139 := Tryz.underlying296
  a139 := Tryz.isAgg296
  z139 := Tryz.sizeOf296
  v139 := Tryz.zeroValue296
  t146 := Tryz.underlying285
  a146 := Tryz.isAgg285
  z146 := Tryz.sizeOf285
  v146 := Tryz.zeroValue285
  t164 := Tryz.underlying290
  a164 := Tryz.isAgg290
  z164 := Tryz.sizeOf290
  v164 := Tryz.zeroValue290
  g1 := by kernel_rfl
  g3 := by kernel_rfl
  g4 := by kernel_rfl }
theorem Tryz.Builder_Extra_155 : Builder.Extra Tryz.prog Tryz.lays155_ren := {
  sizeBuilder := by kernel_rfl
  liesBuilder := by kernel_rfl
  t5 := Tryz.underlying5
  a5 := Tryz.isAgg5
  z5 := Tryz.sizeOf5
  v5 := Tryz.zeroValue5
  infoByte := by kernel_rfl
  cellsByte := by kernel_rfl
  sizeByte := by kernel_rfl
  neB5 := by decide }
open Go.RowKit Go.Lib in
theorem Tryz.strings_ReplaceAll (s old new : ByteArray) (m : Int) (w : World) (hs : s.size < 4294967281) (hm : w.cell? ⟨0, 0, none⟩ = some (.int .i64 m)) (h1 : 1 ≤ old.size) (hlen : s.size + Lib.countB s old * new.size ≤ 140737488355328) :
    Calls Tryz.prog 112 #[.string s, .string old, .string new] w fun e w' =>
      e = .returned (.string ⟨(Lib.replaceAll s.data.toList old.data.toList new.data.toList).toArray⟩) ∧ Below w.heap.size w w' := Any.strings_ReplaceAll Tryz.lays155 Tryz.Builder_Extra_155 s old new m w hs hm h1 hlen
end Go.Proofs

/- Keys and values: how many words, their order, packing. -/
set_option linter.unusedVariables false
set_option linter.unusedSimpArgs false
namespace Go.Proofs.YtpcaadipejnllaaGreatDoor
open Go.RowKit

/-- How many words so many bytes have. -/
def nw (n : Nat) : Nat := (n + 7) / 8
theorem nw_le {n m : Nat} (h : n ≤ 8 * m) : nw n ≤ m := by unfold nw; omega

/-- The order of two strings. -/
def cmpS (a b : ByteArray) : Int := Lib.compareBytes a.data.toList b.data.toList

set_option maxRecDepth 100000 in
set_option maxHeartbeats 1000000 in
theorem words_w (n : Int) (w : World) (h0 : 0 ≤ n) (h1 : n ≤ 1000) :
    Calls Tryz.prog 136 #[.int .i64 n] w fun e w' => e = .returned (.int .i64 (nw n.toNat)) ∧ w = w' := by
  have hv : ((nw n.toNat : Nat) : Int) = if n ≤ 0 then 0 else (n - 1) / 8 + 1 := by unfold nw; split <;> omega
  have Hv := Lib.hid hv
  clear hv
  by_cases h : n ≤ 0
  · go_enter Tryz.func136, Tryz.ntmps136
    go_wp2
    go_ret
    exact ⟨by rw [Hv.out, if_pos h]; rfl, rfl⟩
  · go_enter Tryz.func136, Tryz.ntmps136
    go_wp2
    go_ret
    exact ⟨by rw [Hv.out, if_neg (by omega)]; rfl, rfl⟩

set_option maxRecDepth 100000 in
set_option maxHeartbeats 1000000 in
theorem validvalue_w (s : ByteArray) (w : World) : Calls Tryz.prog 79 #[.string s] w fun e w' => e = .returned (.bool (decide (s.size ≤ 40))) ∧ w = w' := by
  go_enter Tryz.func79, Tryz.ntmps79
  go_wp2
  go_ret
  exact ⟨by simp; omega, rfl⟩

set_option maxRecDepth 100000 in
set_option maxHeartbeats 1000000 in
theorem compare_w (a b : ByteArray) (w : World) : Calls Tryz.prog 61 #[.string a, .string b] w fun e w' => e = .returned (.int .i64 (cmpS a b)) ∧ w = w' := by
  go_enter Tryz.func61, Tryz.ntmps61
  go_wp2_with (go_at_call 103; refine (Tryz.strings_Compare a b _).mono ?_; rintro e w1 ⟨rfl, rfl⟩)
  go_ret
  exact ⟨rfl, rfl⟩

/-- A byte of a string, zero behind its end. -/
def byteAt (s : ByteArray) (j : Nat) : Nat := if h : j < s.size then (s[j]'h).toNat else 0
theorem byteAt_lt (s : ByteArray) (j : Nat) : byteAt s j < 256 := by
  unfold byteAt
  split
  · exact UInt8.toNat_lt _
  · omega
theorem byteAt_in (s : ByteArray) {j : Nat} (h : j < s.size) : ((s[j]'h).toNat) = byteAt s j := by simp [byteAt, h]
theorem byteAt_out (s : ByteArray) {j : Nat} (h : s.size ≤ j) : byteAt s j = 0 := by unfold byteAt; rw [dif_neg (by omega)]
/-- The first k bytes of word i. -/
def pkUp (s : ByteArray) (i : Nat) : Nat → Nat
  | 0 => 0
  | k + 1 => pkUp s i k * 256 + byteAt s (8 * i + k)
def pk (s : ByteArray) (i : Nat) : Nat := pkUp s i 8
theorem pkUp_lt (s : ByteArray) (i : Nat) : ∀ k, pkUp s i k < 256 ^ k
  | 0 => by simp [pkUp]
  | k + 1 => by
    have h1 := pkUp_lt s i k
    have h2 := byteAt_lt s (8 * i + k)
    rw [pkUp, Nat.pow_succ]
    omega
theorem pkUp_small (s : ByteArray) (i k : Nat) (h : k ≤ 7) : pkUp s i k * 256 < 18446744073709551616 := by
  have h1 := pkUp_lt s i k
  have h2 : 256 ^ k ≤ 256 ^ 7 := Nat.pow_le_pow_right (by omega) h
  have h3 : (256 : Nat) ^ 7 = 72057594037927936 := rfl
  omega
theorem pk_lt (s : ByteArray) (i : Nat) : pk s i < 18446744073709551616 := by
  have h1 := pkUp_lt s i 8
  have h3 : (256 : Nat) ^ 8 = 18446744073709551616 := rfl
  unfold pk
  omega
/-- The words of a string, up to one. -/
def packUp (s : ByteArray) (k : Nat) : List Nat := (List.range k).map (pk s)
def packW (s : ByteArray) : List Nat := packUp s (nw s.size)
theorem packUp_succ (s : ByteArray) (k : Nat) : packUp s (k + 1) = packUp s k ++ [pk s k] := by simp [packUp, List.range_succ]
theorem packUp_len (s : ByteArray) (k : Nat) : (packUp s k).length = k := by simp [packUp]
theorem packUp_wd (s : ByteArray) (k i : Nat) (h : i < k) : wd (packUp s k) i = pk s i := by simp [wd, packUp, List.getD, h]

theorem nums_snoc (l : List Nat) (n : Nat) : (nums (l ++ [n])).toList = (nums l).toList ++ [.int .u64 (n : Int)] := by simp [nums]
/-- One more byte is put behind a word's. -/
theorem or_byte (a b : Nat) (hb : b < 256) (ha : a * 256 < 18446744073709551616) : bits .or .u64 ((a : Int) * 256) (b : Int) = ((a * 256 + b : Nat) : Int) := by
  rw [show ((a : Int) * 256) = ((a * 256 : Nat) : Int) by omega, u64_or_nat (a * 256) b ha (by omega)]
  have h : a * 256 ||| b = a * 256 + b := by
    rw [show a * 256 = a <<< 8 by rw [Nat.shiftLeft_eq], Nat.shiftLeft_add_eq_or_of_lt (by omega) a]
  rw [h]

set_option maxRecDepth 100000 in
set_option maxHeartbeats 1000000 in
theorem pack_w (s : ByteArray) (w : World) (hs : s.size ≤ 40) :
    Calls Tryz.prog 104 #[.string s] w fun e w' => ∃ v, e = .returned (.tuple #[v, .int .i64 0]) ∧ w'.ownsRow w.heap.size 60 1 v (nw s.size) (nums (packW s)).toList ∧ Chg [] w w' := by
  obtain ⟨i0, hi, hz0, hz1, hz2⟩ := info_parts info60
  have hd : decide (s.size ≤ 40) = true := decide_eq_true hs
  have hn : nw s.size ≤ 5 := nw_le (by omega)
  go_enter Tryz.func104, Tryz.ntmps104
  go_wp2_with (first
    | (go_at_call 79; refine (validvalue_w s _).mono ?_; rintro e w1 ⟨rfl, rfl⟩)
    | (go_at_call 136; refine (words_w _ _ (by omega) (by omega)).mono ?_; rintro e w1 ⟨rfl, rfl⟩; rw [Int.toNat_natCast]))
  go_loopw [4, 15] (fun v i wr => ∃ k : Nat, k ≤ nw s.size ∧ i = .int .i64 k ∧ Chg [] w wr ∧ wr.ownsRow w.heap.size 60 1 v k (nums (packUp s k)).toList) (fun _ i _ => nw s.size - (intOf i).toNat)
  case atStart => exact ⟨0, by omega, rfl, Chg.refl _ _, World.ownsRow_nil _ _ _ _⟩
  case round =>
    obtain ⟨k, hk, rfl, hC, hown⟩ := hrel
    by_cases hlt : k < nw s.size
    · go_wp2
      go_loop [6, 18] (fun x i => ∃ j : Nat, j ≤ 8 ∧ i = .int .i64 j ∧ x = .int .u64 (pkUp s k j)) (fun _ i => 8 - (intOf i).toNat)
      case atStart => exact ⟨0, by omega, rfl, rfl⟩
      case round =>
        obtain ⟨j, hj, rfl, rfl⟩ := hrel
        have h8 := byteAt_lt s (8 * k + j)
        by_cases hlj : j < 8
        · have hsm := pkUp_small s k j (by omega)
          by_cases hin : 8 * k + j < s.size
          · have hbb := byteAt_in s hin
            have hor := or_byte (pkUp s k j) (byteAt s (8 * k + j)) h8 hsm
            have hb2 : IntKind.u64.wrap ((s[k * 8 + j]'(by omega)).toNat : Int) = (byteAt s (8 * k + j) : Int) := by
              have e : (s[k * 8 + j]'(by omega)).toNat = byteAt s (8 * k + j) := by rw [← hbb]; congr 2; omega
              rw [e, IntKind.wrap_u64]
              omega
            go_wp2
            go_round
            case rel => exact ⟨j + 1, by omega, by go_num, by rw [pkUp]; go_num⟩
            case measure => simp [intOf]; omega
          · have hbb := byteAt_out s (j := 8 * k + j) (by omega)
            go_wp2
            go_round
            case rel => exact ⟨j + 1, by omega, by go_num, by rw [pkUp, hbb]; go_num⟩
            case measure => simp [intOf]; omega
        · obtain rfl : j = 8 := by omega
          go_wp2_with (at_builtin; refine wpList_append_own _ rfl _ _ 118 rfl w.heap.size 60 i0 (.int .u64 0) 1 8 Tryz.underlying118 hi hz0 hz1 hz2 rfl (by decide) _ _ _ rfl (hown.alloc _) ⟨wr.heap.size,0,none⟩ 1 1 [.int .u64 (pk s k)] rfl rfl (one_at _ _ _) (by simp [Value.oneCell']) (by unfold maxLen; omega) (by omega) (by have := hC.size; simp; omega) ?_; intro v' w3 hown3 hg3 _)
          have hC3 := (hC.alloc _).app (hown.alloc _) (Nat.le_refl _) hg3
          go_roundw
          case rel => exact ⟨k + 1, by omega, by go_num, hC3, by rw [packUp_succ, nums_snoc]; exact hown3⟩
          case measure => simp [intOf]; omega
    · obtain rfl : k = nw s.size := by omega
      go_wp2
      go_ret2
      exact ⟨_, rfl, hown, hC⟩

end Go.Proofs.YtpcaadipejnllaaGreatDoor

/- A string out of its words. -/
set_option linter.unusedVariables false
set_option linter.unusedSimpArgs false
namespace Go.Proofs.YtpcaadipejnllaaGreatDoor
open Go.RowKit

theorem info5 : (Tryz.prog.info? 5).map (fun i => (i.zero, i.size, i.bytes)) = some (some (.int .u8 0), 1, 1) := by kernel_rfl
/-- The first m bytes, zeros behind the end. -/
def byUp (s : ByteArray) (m : Nat) : List Value := (List.range m).map fun j => .int .u8 (byteAt s j : Nat)
theorem byUp_len (s : ByteArray) (m : Nat) : (byUp s m).length = m := by simp [byUp]
theorem byUp_succ (s : ByteArray) (m : Nat) : byUp s (m + 1) = byUp s m ++ [.int .u8 (byteAt s m : Nat)] := by simp [byUp, List.range_succ]
theorem byUp_get (s : ByteArray) (m j : Nat) (h : j < m) : (byUp s m)[j]? = some (.int .u8 (byteAt s j : Nat)) := by simp [byUp, h]
/-- Byte j of a word. -/
theorem pk_byte (s : ByteArray) (i j : Nat) (h : j < 8) : ((pk s i : Int) / 2 ^ (8 * (7 - j))) % 256 = (byteAt s (8 * i + j) : Int) := by
  have b0 := byteAt_lt s (8 * i + 0)
  have b1 := byteAt_lt s (8 * i + 1)
  have b2 := byteAt_lt s (8 * i + 2)
  have b3 := byteAt_lt s (8 * i + 3)
  have b4 := byteAt_lt s (8 * i + 4)
  have b5 := byteAt_lt s (8 * i + 5)
  have b6 := byteAt_lt s (8 * i + 6)
  have b7 := byteAt_lt s (8 * i + 7)
  have hp : pk s i = ((((((((0 * 256 + byteAt s (8 * i + 0)) * 256 + byteAt s (8 * i + 1)) * 256 + byteAt s (8 * i + 2)) * 256 + byteAt s (8 * i + 3)) * 256 + byteAt s (8 * i + 4)) * 256 + byteAt s (8 * i + 5)) * 256 + byteAt s (8 * i + 6)) * 256 + byteAt s (8 * i + 7)) := rfl
  have hj : j = 0 ∨ j = 1 ∨ j = 2 ∨ j = 3 ∨ j = 4 ∨ j = 5 ∨ j = 6 ∨ j = 7 := by omega
  rcases hj with rfl | rfl | rfl | rfl | rfl | rfl | rfl | rfl
  · rw [show (8 * (7 - 0)) = 56 from rfl, show (2 : Int) ^ 56 = 72057594037927936 from rfl]; omega
  · rw [show (8 * (7 - 1)) = 48 from rfl, show (2 : Int) ^ 48 = 281474976710656 from rfl]; omega
  · rw [show (8 * (7 - 2)) = 40 from rfl, show (2 : Int) ^ 40 = 1099511627776 from rfl]; omega
  · rw [show (8 * (7 - 3)) = 32 from rfl, show (2 : Int) ^ 32 = 4294967296 from rfl]; omega
  · rw [show (8 * (7 - 4)) = 24 from rfl, show (2 : Int) ^ 24 = 16777216 from rfl]; omega
  · rw [show (8 * (7 - 5)) = 16 from rfl, show (2 : Int) ^ 16 = 65536 from rfl]; omega
  · rw [show (8 * (7 - 6)) = 8 from rfl, show (2 : Int) ^ 8 = 256 from rfl]; omega
  · rw [show (8 * (7 - 7)) = 0 from rfl, show (2 : Int) ^ 0 = 1 from rfl]; omega

theorem packW_len (s : ByteArray) : (packW s).length = nw s.size := packUp_len _ _
theorem nums_cell (l : List Nat) (j : Nat) (h : j < l.length) : (nums l).toList[j]? = some (.int .u64 (wd l j)) := by
  rw [Array.getElem?_toList, nums_get]
  exact h

theorem add_mk (g o j : Nat) : (⟨g, o, none⟩ : Addr).add j = ⟨g, o + j, none⟩ := by
  unfold Addr.add
  split
  · subst_vars; rfl
  · rfl
theorem conv_back (s : ByteArray) (w : World) (g o c : Nat) (h : ∀ j, j < s.size → w.cell? ⟨g, o + j, none⟩ = some (.int .u8 (byteAt s j : Nat))) :
    (convert 86 9 (.slice (some ⟨g, o, none⟩) s.size c)).run Tryz.prog w = .ok (.string s) w := by
  have hl : s.data.toList.length = s.size := by simp
  have q := run_convert_bytes_back (P := Tryz.prog) w 86 9 5 ⟨g, o, none⟩ c s.data.toList Tryz.underlying86 Tryz.underlying5 Tryz.underlying9 (fun j hj => by
    have h1 := h j (by omega)
    have h2 : s.data.toList[j].toNat = byteAt s j := by rw [← byteAt_in s (by omega)]; rfl
    rw [h2]
    rw [add_mk]
    exact h1)
  rw [hl] at q
  exact q
theorem conv_nil (w : World) (c : Nat) : (convert 86 9 (.slice none 0 c)).run Tryz.prog w = .ok (.string ⟨#[]⟩) w := Lib.run_convert_nil_bytes w 86 9 5 c Tryz.underlying86 Tryz.underlying5 Tryz.underlying9
theorem empty_of {s : ByteArray} (h : s.size = 0) : s = ⟨#[]⟩ := by
  apply ByteArray.ext
  apply Array.eq_empty_of_size_eq_zero
  exact h

set_option maxRecDepth 100000 in
set_option maxHeartbeats 1000000 in
theorem unpack_w (s : ByteArray) (v : Value) (w : World) (hs : s.size ≤ 40) (h : Sl w 1 v (nw s.size) (nums (packW s)).toList) :
    Calls Tryz.prog 170 #[v, .int .i64 s.size] w fun e w' => e = .returned (.tuple #[.string s, .int .i64 0]) ∧ Chg [] w w' := by
  obtain ⟨i0, hi, hz0, hz1, hz2⟩ := info_parts info5
  have hn : nw s.size ≤ 5 := nw_le (by omega)
  have hn8 : s.size ≤ 8 * nw s.size := by unfold nw; omega
  obtain ⟨A, c, rfl, hc1, hc2⟩ := h.form
  go_enter Tryz.func170, Tryz.ntmps170
  go_wp2_with (first
    | (go_at_call 136; refine (words_w _ _ (by omega) (by omega)).mono ?_; rintro e w1 ⟨rfl, rfl⟩; rw [Int.toNat_natCast]))
  all_goals skip
  go_loopw [6, 26] (fun x i wr => ∃ k : Nat, k ≤ nw s.size ∧ i = .int .i64 k ∧ Chg [] w wr ∧ wr.ownsRow w.heap.size 5 1 x (8 * k) (byUp s (8 * k))) (fun _ i _ => nw s.size - (intOf i).toNat)
  case atStart => exact ⟨0, by omega, rfl, Chg.refl _ _, World.ownsRow_nil _ _ _ _⟩
  case round =>
    obtain ⟨k, hk, rfl, hC, hown⟩ := hrel
    by_cases hlt : k < nw s.size
    · have h2 := h.ext hC
      obtain ⟨b, o, rfl, hb, hx⟩ := h2.at_ (by omega)
      have hx2 := hx k (by omega)
      rw [nums_cell _ _ (by rw [packW_len]; omega), show wd (packW s) k = (pk s k : Int) from packUp_wd s _ k hlt] at hx2
      clear hx
      go_wp2
      go_loopw [6, 9] (fun x i wr2 => ∃ j : Nat, j ≤ 8 ∧ i = .int .i64 (7 - (j : Int)) ∧ Chg [] w wr2 ∧ wr2.ownsRow w.heap.size 5 1 x (8 * k + j) (byUp s (8 * k + j))) (fun _ i _ => (1 + intOf i).toNat)
      case atStart => exact ⟨0, by omega, rfl, hC, hown⟩
      case round =>
        obtain ⟨j, hj, rfl, hC2, hown2⟩ := hrel
        by_cases hlj : j < 8
        · have hpk := pk_byte s k j hlj
          go_wp2_with (at_builtin; refine wpList_append_own _ rfl _ _ 86 rfl w.heap.size 5 i0 (.int .u8 0) 1 1 Tryz.underlying86 hi hz0 hz1 hz2 rfl (by decide) _ _ _ rfl (hown2.alloc _) ⟨wr.heap.size, 0, none⟩ 1 1 [.int .u8 (byteAt s (8 * k + j) : Nat)] rfl rfl (one_at _ _ _) (by simp [Value.oneCell']) (by unfold maxLen; omega) (by omega) (by have := hC2.size; simp; omega) ?_; intro v' w3 hown3 hg3 _)
          have hC3 := (hC2.alloc _).app (hown2.alloc _) (Nat.le_refl _) hg3
          go_roundw
          case rel => exact ⟨j + 1, by omega, by go_num, hC3, by rw [show 8 * k + (j + 1) = 8 * k + j + 1 by omega, byUp_succ]; exact hown3⟩
          case measure => simp [intOf]; omega
        · obtain rfl : j = 8 := by omega
          go_wp2
          go_roundw
          case rel => exact ⟨k + 1, by omega, by go_num, hC2, hown2⟩
          case measure => simp [intOf]; omega
    · obtain rfl : k = nw s.size := by omega
      have hO := Sl.own hown
      obtain ⟨A', c', rfl, hc1', hc2'⟩ := hO.form
      have hz8 : s.size = 0 ↔ nw s.size = 0 := by unfold nw; omega
      by_cases hz : s.size = 0
      · have h0 : nw s.size = 0 := hz8.1 hz
        have he := empty_of hz
        have qn : ∀ c, (convert 86 9 (.slice none 0 c)).run Tryz.prog wr = .ok (.string s) wr := fun c => by rw [he]; exact conv_nil wr c
        have qs : ∀ g o c, (convert 86 9 (.slice (some ⟨g, o, none⟩) 0 c)).run Tryz.prog wr = .ok (.string s) wr := fun g o c => by
          have := conv_back s wr g o c (fun j hj => by omega)
          rwa [hz] at this
        rw [h0] at hown ⊢
        rcases hown.2 with ⟨e, _⟩ | ⟨g, cap, cur, e, _⟩
        · injection e with e1 _ e2
          subst e1
          go_wp2
          all_goals
            go_loop [47] (fun i => i = .int .i64 0) (fun i => 0)
            case atStart => exact rfl
            case round =>
              subst hrel
              go_wp2
              go_ret2
              exact ⟨rfl, hC⟩
        · injection e with e1 _ e2
          subst e1
          go_wp2
          all_goals
            go_loop [47] (fun i => i = .int .i64 0) (fun i => 0)
            case atStart => exact rfl
            case round =>
              subst hrel
              go_wp2
              go_ret2
              exact ⟨rfl, hC⟩
      · obtain ⟨g, o, rfl, hg, hx⟩ := hO.at_ (by omega)
        have hxs : ∀ j, j < 8 * nw s.size → wr.cell? ⟨g, o + j, none⟩ = some (.int .u8 (byteAt s j : Nat)) := fun j hj => by rw [hx j (by omega), byUp_get _ _ _ hj]
        have qs := fun c : Nat => conv_back s wr g o c (fun j hj => hxs j (by omega))
        go_wp2
        all_goals
          go_loop [47] (fun i => ∃ j : Nat, j ≤ 8 * nw s.size - s.size ∧ i = .int .i64 j) (fun i => 8 * nw s.size - s.size - (intOf i).toNat)
          case atStart => exact ⟨0, by omega, rfl⟩
          case round =>
            obtain ⟨j, hj, rfl⟩ := hrel
            by_cases hlt2 : j < 8 * nw s.size - s.size
            · first
                | (exfalso; omega)
                | (have hzz := byteAt_out s (j := s.size + j) (by omega)
                   have hcz := hxs (s.size + j) (by omega)
                   rw [hzz, ← Nat.add_assoc] at hcz
                   clear hx hxs
                   go_wp2
                   go_round
                   case rel => exact ⟨j + 1, by omega, by go_num⟩
                   case measure => simp [intOf]; omega)
            · go_wp2
              go_ret2
              exact ⟨rfl, hC⟩

end Go.Proofs.YtpcaadipejnllaaGreatDoor
