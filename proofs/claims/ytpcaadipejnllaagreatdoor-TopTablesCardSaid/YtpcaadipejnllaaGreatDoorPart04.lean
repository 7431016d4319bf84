/- A page of a list. -/
import Derived.Test.YtpcaadipejnllaaGreatDoorPart03

set_option linter.unusedVariables false
set_option linter.unusedSimpArgs false
namespace Go.Proofs.YtpcaadipejnllaaGreatDoor
open Go.RowKit

structure OkL (lvl : Nat) (l : List Pr) : Prop where
  ok : ∀ x ∈ l, OkP x
  key0 : lvl = 0 → ∀ x ∈ l, 0 < x.1.size
  keyN : lvl ≠ 0 → ∀ (k : Nat) (x : Pr), l[k]? = some x → ((k = 0 ∧ x.1.size = 0) ∨ 0 < x.1.size) ∧ IsNum x.2
  ord : ∀ (k : Nat) (x y : Pr), l[k]? = some x → l[k + 1]? = some y → cmpS x.1 y.1 < 0
  fit : load l ≤ 108

theorem allowed_w (lvl : Nat) (i : Nat) (x : Pr) (l : List Pr) (w : World) (h : OkL lvl l) (hx : l[i]? = some x) :
    Calls Tryz.prog 202 #[.bool (decide (lvl = 0)), .int .i64 i, .string x.1, .string x.2] w fun e w' => e = .returned (.int .i64 0) ∧ Chg [] w w' := by
  have hm := List.mem_of_getElem? hx
  by_cases h0 : lvl = 0
  · rw [decide_eq_true h0]
    exact allowed_leaf i x w (h.ok x hm) (h.key0 h0 x hm)
  · rw [decide_eq_false h0]
    obtain ⟨h1, h2⟩ := h.keyN h0 i x hx
    exact allowed_inner i x w (h.ok x hm) (h1.imp (fun ⟨a, b⟩ => ⟨by omega, b⟩) id) h2

theorem compare_v (a b : ByteArray) (w : World) : Calls Tryz.prog 61 #[.string a, .string b] w fun e w' => e = .returned (.int .i64 (cmpS a b)) ∧ w' = w := by
  refine (compare_w a b w).mono ?_
  rintro e w1 ⟨rfl, rfl⟩
  exact ⟨rfl, rfl⟩
theorem allowed_w0 (lvl : Nat) (x : Pr) (l : List Pr) (w : World) (h : OkL lvl l) (hx : l[0]? = some x) :
    Calls Tryz.prog 202 #[.bool (decide (lvl = 0)), .int .i64 0, .string x.1, .string x.2] w fun e w' => e = .returned (.int .i64 0) ∧ Chg [] w w' := by
  have := allowed_w lvl 0 x l w h hx
  rwa [Int.natCast_zero] at this

theorem box2 {wr w3 : World} {a b : Value} (hC : Chg [] (wr.alloc (.cells #[a, b] 93)) w3) : w3.cell? ⟨wr.heap.size, 0, none⟩ = some a ∧ w3.cell? ⟨wr.heap.size, 1, none⟩ = some b := by
  have h := (Blk.new wr 93 #[a, b]).ext hC
  exact ⟨by rw [h.cell]; rfl, by rw [h.cell]; rfl⟩

set_option maxRecDepth 100000 in
set_option maxHeartbeats 300000 in
theorem of_w (lvl : Nat) (low high : ByteArray) (next : Nat) (l : List Pr) (v : Value) (w : World) (hv : lvl ≤ 5) (hl : low.size ≤ 24) (hh : high.size ≤ 24) (ho : high = ⟨#[]⟩ ∨ (high ≠ ⟨#[]⟩ ∧ cmpS low high < 0))
    (hn : next ≤ 511) (hL : OkL lvl l) (hS : Sl w 2 v l.length (prs l)) (hvb : ∀ k, v.ownBlock = some k → k < w.heap.size) :
    Calls Tryz.prog 183 #[.int .i64 lvl, .string low, .string high, .int .i64 next, v] w
      fun e w' => ∃ pg, e = .returned (.tuple #[.agg (nums pg), .int .i64 0]) ∧ Head pg lvl low high next ∧ Body pg l ∧ Chg [] w w' := by
  obtain ⟨H1, H2, H3⟩ := mkPg_head lvl low high hl hh
  have hsz : (nums (mkPg lvl low high)).size = 128 := by rw [nums_size]; exact H1.len
  have hone : (nums (mkPg lvl low high)).all (·.oneCell') = true := nums_one _
  obtain ⟨A, c, rfl, hc1, hc2⟩ := hS.form
  have hlen : l.length ≤ 108 := by have := load_eq l; have := hL.fit; omega
  have hd0 : ((lvl : Int) == 0) = decide (lvl = 0) := by
    by_cases h : lvl = 0
    · subst h; rfl
    · rw [decide_eq_false h, beq_eq_false_iff_ne]; omega
  go_enter Tryz.func183, Tryz.ntmps183
  go_wp2_with (first
    | (go_at_call 24; refine (make_w lvl low high _ hv hl hh ho).mono ?_; rintro e w1 ⟨rfl, hC1⟩; obtain ⟨M, hM⟩ : ∃ M, M = mkPg lvl low high := ⟨_, rfl⟩; rw [← hM] at H1 H2 H3 hsz hone ⊢; clear hM; have hR1 : Blk w1 w.heap.size 72 (nums z128) := (Blk.new w 72 _).ext hC1; have hCC1 : Chg [] w w1 := ((Chg.refl _ _).alloc _).nil hC1; have hlt1 := hR1.lt)
    | (refine wpList_store_blk rfl 72 (.tmp 12) (.tmp 23) rfl w1.heap.size rfl (nums M) rfl 72 _ (Blk.new w1 72 _) (hsz ▸ (by kernel_rfl)) (by rw [hsz]; rfl) hone ?_; intro w2 hC2 hs2 hB2; have hR2 := (hR1.alloc _).chg hC2 (by simp; omega); have hCC2 := (hCC1.alloc _).on hC2 (fun i hi => .inr (by simp at hi; subst hi; exact hCC1.size)); have hs21 : w2.heap.size = w1.heap.size + 1 := (by rw [hs2]; simp)))
  go_loopw [14, 38] (fun n i wr => ∃ k : Nat, k ≤ l.length ∧ i = .int .i64 k ∧ n = .int .i64 (load (l.take k)) ∧ Chg [] w2 wr) (fun _ i _ => l.length - (intOf i).toNat)
  case atStart => exact ⟨0, by omega, rfl, rfl, Chg.refl _ _⟩
  case round =>
    obtain ⟨k, hk, rfl, rfl, hC⟩ := hrel
    have hS2 := hS.ext (hCC2.trans hC)
    have hldk := load_take l k
    have hfit := hL.fit
    by_cases hlt : k < l.length
    · obtain ⟨s, o, rfl, hs, hx'⟩ := hS2.at_ (by omega)
      obtain ⟨x, hxk⟩ : ∃ x, l[k]? = some x := ⟨_, List.getElem?_eq_getElem hlt⟩
      obtain ⟨g1, g2⟩ := prs_get l k x hxk
      have d1 := hx' (k * 2) (by omega)
      have d2 := hx' (k * 2 + 1) (by omega)
      rw [g1] at d1
      rw [g2, ← Nat.add_assoc] at d2
      obtain ⟨o1, o2, o3⟩ := hL.ok x (List.mem_of_getElem? hxk)
      have htk : load (l.take (k + 1)) = load (l.take k) + costP x := by rw [List.take_add_one, hxk, load_app, ← load_one]; rfl
      have hldk2 := load_take l (k + 1)
      rcases Nat.eq_zero_or_pos k with h0 | h0
      · subst h0
        have hl0 : load ([] : List Pr) = 0 := rfl
        simp only [Nat.zero_mul, Nat.add_zero, Nat.zero_add] at d1 d2
        clear hx' hS2
        go_wp2_with (first
          | (go_at_call 202; refine (allowed_w0 lvl x l _ hL hxk).mono ?_; rintro e w3 ⟨rfl, hC3⟩; obtain ⟨e1, e2⟩ := box2 hC3))
        go_quiet (fail)
        all_goals
          go_wp2_with (first
            | (go_at_call 176; refine (cost_w x _ (by omega) (by omega)).mono ?_; rintro e w5 ⟨rfl, rfl⟩))
          go_roundw
          case rel => exact ⟨0 + 1, by omega, by go_num, by rw [htk]; go_num, by first | exact ((hC.alloc _).trans hC3).drew | exact ((hC.alloc _).trans hC3).drewN _⟩
          case measure => simp [intOf]; omega
      · obtain ⟨y, hyk⟩ : ∃ y, l[k - 1]? = some y := ⟨_, List.getElem?_eq_getElem (by omega)⟩
        obtain ⟨p1, p2⟩ := prs_get l (k - 1) y hyk
        have d3 := hx' ((k - 1) * 2) (by omega)
        rw [p1] at d3
        have hord := hL.ord (k - 1) y x hyk (by rw [show k - 1 + 1 = k by omega]; exact hxk)
        have d3' : ∀ W, Chg [] wr W → W.cell? ⟨s, o + (k - 1) * 2, none⟩ = some (.string y.1) := fun W hW => by rw [hW.cell hs (by simp)]; exact d3
        have D3 := Lib.hid d3'
        clear hx' hS2 d3 d3'
        go_wp2_with (first
          | (go_at_call 202; refine (allowed_w lvl k x l _ hL hxk).mono ?_; rintro e w3 ⟨rfl, hC3⟩; obtain ⟨e1, e2⟩ := box2 hC3; have e3 := D3.out w3 (((Chg.refl [] wr).alloc _).trans hC3)))
        have hsub : IntKind.i64.wrap ((k : Int) - 1) = ((k - 1 : Nat) : Int) := by rw [show (k : Int) - 1 = ((k - 1 : Nat) : Int) by omega]; exact wrap_nat _ (by omega)
        go_quiet ((go_at_call 61; exact Calls.quiet_of_same (compare_v _ _ _)))
        clear hsub
        all_goals
          go_wp2_with (first
            | (go_at_call 176; refine (cost_w x _ (by omega) (by omega)).mono ?_; rintro e w5 ⟨rfl, rfl⟩))
          go_roundw
          case rel => exact ⟨k + 1, by omega, by go_num, by rw [htk]; go_num, by first | exact ((hC.alloc _).trans hC3).drew | exact ((hC.alloc _).trans hC3).drewN _⟩
          case measure => simp [intOf]; omega
    · obtain rfl : k = l.length := by omega
      rw [List.take_length] at hldk
      have hBr := hB2.ext hC
      have hRr := hR2.ext hC
      have hCCr := hCC2.trans hC
      have hbl := hBr.lt
      have hl10 : (M.set 10 next).length = 128 := by rw [List.length_set]; exact H1.len
      have hszw := hCC1.size
      go_wp2_with (first
        | (refine wpList_store_word rfl (.tmp 83) (.tmp 82) rfl w1.heap.size 10 rfl _ rfl next rfl M hBr (by rw [H1.len]; omega) ?_; intro w4 hC4 hs4 hB4; have hS4 := hS2.chg hC4 (fun i hi => by have := hvb i hi; simp; omega))
        | (go_at_call 203; refine (compact_w _ _ l _ _ hB4 hl10 hS4 (fun i hi => by have := hvb i hi; omega) hL.fit hL.ok).mono ?_; rintro e w5 ⟨rfl, hC5, pg, hB5, hpl, hplow, hBody⟩; have hR5 := (hRr.chg hC4 (by simp; omega)).chg hC5 (by simp; omega); have hsz5 : (nums pg).size = 128 := (by rw [nums_size]; exact hpl); have hone5 : (nums pg).all (·.oneCell') = true := nums_one _)
        | (refine wpList_load_row rfl 72 (.tmp 12) rfl w1.heap.size rfl 72 (nums pg) (0, 0) _ hB5 Tryz.underlying72 rfl (hsz5 ▸ (by kernel_rfl)) ?_)
        | (refine wpList_store_blk rfl 72 (.tmp 10) (.tmp 86) rfl w.heap.size rfl (nums pg) rfl 72 _ hR5 (hsz5 ▸ (by kernel_rfl)) (by rw [hsz5, nums_size, z128_len]) hone5 ?_; intro w6 hC6 hs6 hB6))
      refine bodyPost_ret (res_row_tmp rfl _ hB6 rfl rfl Tryz.underlying72 rfl (hsz5 ▸ (by kernel_rfl))) rfl ⟨pg, rfl, ?_, hBody, ?_⟩
      · refine Head.same (pg := M.set 10 next) ⟨hl10, fun i hi => ?_, ?_, ?_, ⟨hl, ?_, fun i hi => ?_⟩, ⟨hh, ?_, fun i hi => ?_⟩⟩ hpl hplow
        · rw [wd_set _ _ _ _ (by rw [H1.len]; omega), if_neg (by omega)]; exact H1.z i hi
        · rw [wd_set _ _ _ _ (by rw [H1.len]; omega), if_neg (by omega)]; exact H1.kind
        · rw [wd_set _ _ _ _ (by rw [H1.len]; omega), if_pos rfl]
        · rw [wd_set _ _ _ _ (by rw [H1.len]; omega), if_neg (by omega)]; exact H1.low_.len
        · rw [wd_set _ _ _ _ (by rw [H1.len]; omega), if_neg (by omega)]; exact H1.low_.wds i hi
        · rw [wd_set _ _ _ _ (by rw [H1.len]; omega), if_neg (by omega)]; exact H1.high_.len
        · rw [wd_set _ _ _ _ (by rw [H1.len]; omega), if_neg (by omega)]; exact H1.high_.wds i hi
      · refine ((hCCr.on hC4 (fun i hi => .inr ?_)).on hC5 (fun i hi => .inr ?_)).on hC6 (fun i hi => .inr ?_)
        · simp at hi; omega
        · simp at hi; omega
        · simp at hi; omega

end Go.Proofs.YtpcaadipejnllaaGreatDoor

/- A page that is read: its head, its entries. -/
set_option linter.unusedVariables false
set_option linter.unusedSimpArgs false
namespace Go.Proofs.YtpcaadipejnllaaGreatDoor
open Go.RowKit

/-- A page as data. -/
structure PG where
  lvl : Nat
  low : ByteArray
  high : ByteArray
  next : Nat
  l : List Pr
/-- The words of a page. -/
structure IsPage (pg : List Nat) (g : PG) : Prop where
  head : Head pg g.lvl g.low g.high g.next
  body : Body pg g.l
  ok : OkL g.lvl g.l
  lvl5 : g.lvl ≤ 5
  nx : g.next ≤ 511

/-- An entry of a page. -/
structure EntAt (pg : List Nat) (k a : Nat) (x : Pr) : Prop where
  dir : wd pg (20 + k) = (dirW a x.1.size x.2.size : Nat)
  kw : ∀ i, i < nw x.1.size → wd pg (a + i) = (pk x.1 i : Int)
  vw : ∀ i, i < nw x.2.size → wd pg (a + nw x.1.size + i) = (pk x.2 i : Int)
  hi : a + rec_ x ≤ 128
  lo : 20 + k < a

set_option maxRecDepth 100000 in
set_option maxHeartbeats 1000000 in
theorem head_w (b : Nat) (pg : List Nat) (g : PG) (w : World) (h : Blk w b 72 (nums pg)) (hP : IsPage pg g) :
    Calls Tryz.prog 137 #[.pointer (some ⟨b, 0, none⟩)] w fun e w' => e = .returned (.bool true) ∧ Chg [] w w' := by
  have hl := hP.head.len
  have h5 := hP.lvl5
  have hnx := hP.nx
  have hle := load_eq g.l
  have hf := hP.ok.fit
  have c8 := h.num 8 (by omega)
  have c9 := h.num 9 (by omega)
  have c10 := h.num 10 (by omega)
  have c11 := h.num 11 (by omega)
  rw [hP.head.kind] at c8
  rw [hP.body.cnt] at c9
  rw [hP.head.nxt] at c10
  rw [hP.body.top] at c11
  obtain ⟨T, hT⟩ : ∃ T, T = 128 - recs g.l := ⟨_, rfl⟩
  rw [← hT] at c11
  have hT2 : T + recs g.l = 128 := by omega
  clear hT
  have hw1 : IntKind.u64.wrap (20 + (g.l.length : Int)) = 20 + (g.l.length : Int) := by rw [IntKind.wrap_u64]; omega
  have z1 : decide ((g.lvl : Int) + 1 < 1) = false := decide_eq_false (by omega)
  have z2 : decide (6 < (g.lvl : Int) + 1) = false := decide_eq_false (by omega)
  have z3 : decide (108 < (g.l.length : Int)) = false := decide_eq_false (by omega)
  have z4 : decide (511 < (g.next : Int)) = false := decide_eq_false (by omega)
  have z5 : decide (128 < (T : Int)) = false := decide_eq_false (by omega)
  have z6 : decide ((T : Int) < 20 + (g.l.length : Int)) = false := decide_eq_false (by omega)
  go_enter Tryz.func137, Tryz.ntmps137
  go_wp2
  go_quiet (fail)
  clear z1 z2 z3 z4 z5 z6
  go_wp2_with (first
    | (go_at_call 169; have _h0 := hC1; refine (fence_w b 16 pg g.high _ (hB1.ext hC1) hl (by omega) hP.head.high_).mono ?_; rintro e w2 ⟨rfl, hC2⟩)
    | (go_at_call 169; have hB1 := h.drewN nq; refine (fence_w b 12 pg g.low _ hB1 hl (by omega) hP.head.low_).mono ?_; rintro e w1 ⟨rfl, hC1⟩))
  go_ret
  exact ⟨rfl, (((Chg.refl _ _).drewN _).trans hC1).trans hC2⟩

end Go.Proofs.YtpcaadipejnllaaGreatDoor

/- A page that is read: an entry's sizes and text. -/
set_option linter.unusedVariables false
set_option linter.unusedSimpArgs false
namespace Go.Proofs.YtpcaadipejnllaaGreatDoor
open Go.RowKit

theorem entA_cells {w : World} {g a k v : Nat} (h : Blk w g 231 (entA a k v)) : w.cell? ⟨g, 0, none⟩ = some (.int .i64 a) ∧ w.cell? ⟨g, 1, none⟩ = some (.int .i64 (a + nw k : Nat)) ∧ w.cell? ⟨g, 2, none⟩ = some (.int .i64 (a + nw k + nw v : Nat)) ∧ w.cell? ⟨g, 3, none⟩ = some (.int .i64 k) ∧ w.cell? ⟨g, 4, none⟩ = some (.int .i64 v) :=
  ⟨by rw [h.cell]; rfl, by rw [h.cell]; rfl, by rw [h.cell]; rfl, by rw [h.cell]; rfl, by rw [h.cell]; rfl⟩

set_option maxRecDepth 100000 in
set_option maxHeartbeats 1000000 in
theorem sized_w (b : Nat) (pg : List Nat) (g : PG) (k a : Nat) (x : Pr) (w : World) (h : Blk w b 72 (nums pg)) (hP : IsPage pg g) (hE : EntAt pg k a x) (hk : g.l[k]? = some x) (ht : 128 - recs g.l ≤ a) :
    Calls Tryz.prog 138 #[.pointer (some ⟨b, 0, none⟩), .int .i64 k] w fun e w' => e = .returned (.bool true) ∧ Chg [] w w' := by
  have hl := hP.head.len
  have h5 := hP.lvl5
  have hle := load_eq g.l
  have hf := hP.ok.fit
  obtain ⟨o1, o2, o3⟩ := hP.ok.ok x (List.mem_of_getElem? hk)
  have hkl : k < g.l.length := (List.getElem?_eq_some_iff.1 hk).1
  have hr : rec_ x = nw x.1.size + nw x.2.size := rfl
  have hhi := hE.hi
  have hlo := hE.lo
  have hnv : 0 < nw x.2.size := by unfold nw; omega
  have c8 := h.num 8 (by omega)
  have c11 := h.num 11 (by omega)
  have cd := h.num (20 + k) (by omega)
  rw [hP.head.kind] at c8
  rw [hP.body.top] at c11
  rw [hE.dir] at cd
  obtain ⟨T, hT⟩ : ∃ T, T = 128 - recs g.l := ⟨_, rfl⟩
  rw [← hT] at c11 ht
  have htop : wd pg 11 = (T : Int) := by rw [hT]; exact hP.body.top
  have Ht := Lib.hid htop
  clear hT htop
  have hdl := dirW_lt (a := a) (k := x.1.size) (v := x.2.size) (by omega) (by omega) (by omega)
  have hda := dirW_at (a := a) (k := x.1.size) (v := x.2.size) (by omega) (by omega)
  have hda' : ((dirW a x.1.size x.2.size : Nat) : Int) / 65536 = (a : Int) := by omega
  have bpos : b < w.heap.size := h.lt
  by_cases h0 : g.lvl = 0
  · have hk0 := hP.ok.key0 h0 x (List.mem_of_getElem? hk)
    have z1 : ((g.lvl : Int) + 1 == 1) = true := by rw [h0]; rfl
    have z2 : ((x.1.size : Int) == 0) = false := by rw [beq_eq_false_iff_ne]; omega
    have H0 := Lib.hid h0
    clear h0
    go_enter Tryz.func138, Tryz.ntmps138
    go_wp2_with (first
      | (go_at_call 139; refine (entry_w a x.1.size x.2.size _ (by omega) (by omega) (by omega)).mono ?_; rintro e w1 ⟨rfl, hC1⟩; have hB1 := h.ext hC1; have c8' := hB1.num 8 (by omega); rw [hP.head.kind] at c8'; have hsz1 := hC1.size)
      | (refine wpList_store_blk rfl 231 (.tmp 6) (.tmp 18) rfl w1.heap.size rfl (entA a x.1.size x.2.size) rfl 231 _ (Blk.new w1 231 _) (by kernel_rfl) rfl (by simp [entA, Value.oneCell']) ?_; intro w2 hC2 hs2 hB2; obtain ⟨e0, e1, e2, e3, e4⟩ := entA_cells hB2; have hBp := (hB1.alloc _).chg hC2 (by simp; omega); have c8' := hBp.num 8 (by omega); have c11' := hBp.num 11 (by omega); rw [hP.head.kind] at c8'; rw [Ht.out] at c11'))
    all_goals
      have y1 : IntKind.u64.wrap (a : Int) = (a : Int) := by rw [IntKind.wrap_u64]; omega
      have y2 : decide ((T : Int) ≤ (a : Int)) = true := decide_eq_true (by omega)
      have y3 : decide (((a + nw x.1.size + nw x.2.size : Nat) : Int) ≤ 128) = true := decide_eq_true (by omega)
      go_quiet (fail)
      go_wp2
      go_ret
      exact ⟨by first | rfl | (simp; omega), (((hC1.alloc _).on hC2 (fun i hi => .inr (by simp at hi; omega)))).drewN _⟩
  · obtain ⟨hkk, n, n1, n2, hvn⟩ := hP.ok.keyN h0 k x hk
    have z3 : ((x.2.size : Int) != 8) = false := by rw [hvn]; rfl
    clear hvn
    rcases hkk with ⟨hk0, hx0⟩ | hx0
    · have z2 : ((x.1.size : Int) == 0) = true := by rw [hx0]; rfl
      have z4 : decide ((0 : Int) < (k : Int)) = false := decide_eq_false (by omega)
      have hkz : k ≤ 0 := by omega
      clear hk0 hx0
      have z1 : ((g.lvl : Int) + 1 == 1) = false := by rw [beq_eq_false_iff_ne]; omega
      go_enter Tryz.func138, Tryz.ntmps138
      go_wp2_with (first
        | (go_at_call 139; refine (entry_w a x.1.size x.2.size _ (by omega) (by omega) (by omega)).mono ?_; rintro e w1 ⟨rfl, hC1⟩; have hB1 := h.ext hC1; have c8' := hB1.num 8 (by omega); rw [hP.head.kind] at c8'; have hsz1 := hC1.size)
        | (refine wpList_store_blk rfl 231 (.tmp 6) (.tmp 18) rfl w1.heap.size rfl (entA a x.1.size x.2.size) rfl 231 _ (Blk.new w1 231 _) (by kernel_rfl) rfl (by simp [entA, Value.oneCell']) ?_; intro w2 hC2 hs2 hB2; obtain ⟨e0, e1, e2, e3, e4⟩ := entA_cells hB2; have hBp := (hB1.alloc _).chg hC2 (by simp; omega); have c8' := hBp.num 8 (by omega); have c11' := hBp.num 11 (by omega); rw [hP.head.kind] at c8'; rw [Ht.out] at c11'))
      all_goals
        have y1 : IntKind.u64.wrap (a : Int) = (a : Int) := by rw [IntKind.wrap_u64]; omega
        have y2 : decide ((T : Int) ≤ (a : Int)) = true := decide_eq_true (by omega)
        have y3 : decide (((a + nw x.1.size + nw x.2.size : Nat) : Int) ≤ 128) = true := decide_eq_true (by omega)
        first
          | (exfalso; omega)
          | (go_quiet (fail)
             go_wp2
             go_ret
             exact ⟨by first | rfl | (simp; omega), (((hC1.alloc _).on hC2 (fun i hi => .inr (by simp at hi; omega)))).drewN _⟩)

    · have z2 : ((x.1.size : Int) == 0) = false := by rw [beq_eq_false_iff_ne]; omega
      have z1 : ((g.lvl : Int) + 1 == 1) = false := by rw [beq_eq_false_iff_ne]; omega
      go_enter Tryz.func138, Tryz.ntmps138
      go_wp2_with (first
        | (go_at_call 139; refine (entry_w a x.1.size x.2.size _ (by omega) (by omega) (by omega)).mono ?_; rintro e w1 ⟨rfl, hC1⟩; have hB1 := h.ext hC1; have c8' := hB1.num 8 (by omega); rw [hP.head.kind] at c8'; have hsz1 := hC1.size)
        | (refine wpList_store_blk rfl 231 (.tmp 6) (.tmp 18) rfl w1.heap.size rfl (entA a x.1.size x.2.size) rfl 231 _ (Blk.new w1 231 _) (by kernel_rfl) rfl (by simp [entA, Value.oneCell']) ?_; intro w2 hC2 hs2 hB2; obtain ⟨e0, e1, e2, e3, e4⟩ := entA_cells hB2; have hBp := (hB1.alloc _).chg hC2 (by simp; omega); have c8' := hBp.num 8 (by omega); have c11' := hBp.num 11 (by omega); rw [hP.head.kind] at c8'; rw [Ht.out] at c11'))
      all_goals
        have y1 : IntKind.u64.wrap (a : Int) = (a : Int) := by rw [IntKind.wrap_u64]; omega
        have y2 : decide ((T : Int) ≤ (a : Int)) = true := decide_eq_true (by omega)
        have y3 : decide (((a + nw x.1.size + nw x.2.size : Nat) : Int) ≤ 128) = true := decide_eq_true (by omega)
        go_quiet (fail)
        go_wp2
        go_ret
        exact ⟨by first | rfl | (simp; omega), (((hC1.alloc _).on hC2 (fun i hi => .inr (by simp at hi; omega)))).drewN _⟩

end Go.Proofs.YtpcaadipejnllaaGreatDoor

/- A page that is read: an entry's text. -/
set_option linter.unusedVariables false
set_option linter.unusedSimpArgs false
namespace Go.Proofs.YtpcaadipejnllaaGreatDoor
open Go.RowKit

set_option maxRecDepth 100000 in
set_option maxHeartbeats 1000000 in
theorem text_w (b : Nat) (pg : List Nat) (k a : Nat) (x : Pr) (w : World) (h : Blk w b 72 (nums pg)) (hl : pg.length = 128) (hE : EntAt pg k a x) (hO : OkP x) :
    Calls Tryz.prog 140 #[.pointer (some ⟨b, 0, none⟩), .agg (entA a x.1.size x.2.size)] w fun e w' => e = .returned (.tuple #[.agg #[.string x.1, .string x.2], .int .i64 0]) ∧ Chg [] w w' := by
  obtain ⟨o1, o2, o3⟩ := hO
  have hr : rec_ x = nw x.1.size + nw x.2.size := rfl
  have hhi := hE.hi
  have hlo := hE.lo
  have hnv : 0 < nw x.2.size := by unfold nw; omega
  have hSk : ∀ W c, Blk W b 72 (nums pg) → nw x.1.size ≤ c → c ≤ 1000 → Sl W 1 (.slice (some ⟨b, a, none⟩) (nw x.1.size) c) (nw x.1.size) (nums (packW x.1)).toList := fun W c hB h1 h2 =>
    Sl.words hB (packW_len _) (by omega) h1 h2 (fun i hi => by rw [hE.kw i hi]; exact (packUp_wd _ _ i hi).symm)
  have hSv : ∀ W c, Blk W b 72 (nums pg) → nw x.2.size ≤ c → c ≤ 1000 → Sl W 1 (.slice (some ⟨b, a + nw x.1.size, none⟩) (nw x.2.size) c) (nw x.2.size) (nums (packW x.2)).toList := fun W c hB h1 h2 =>
    Sl.words hB (packW_len _) (by omega) h1 h2 (fun i hi => by rw [hE.vw i hi]; exact (packUp_wd _ _ i hi).symm)
  have q1 := fun W : World => slice72 W b a ((a : Int) + (nw x.1.size : Int)) a (a + nw x.1.size) rfl (by omega) (by omega) (by omega) (by omega)
  have q2 := fun W : World => slice72 W b ((a : Int) + (nw x.1.size : Int)) ((a : Int) + (nw x.1.size : Int) + (nw x.2.size : Int)) (a + nw x.1.size) (a + nw x.1.size + nw x.2.size) (by omega) (by omega) (by omega) (by omega) (by omega)
  have hbl := h.lt
  go_enter Tryz.func140, Tryz.ntmps140
  go_wp2
  refine wp_world (fun W => Chg [] w W ∧ Blk W b 72 (nums pg) ∧ Blk W w.heap.size 231 (entA a x.1.size x.2.size) ∧ Blk W (w.heap.size + 1) 93 #[.string ⟨#[]⟩, .string ⟨#[]⟩]) ⟨((Chg.refl _ _).alloc _).alloc _, (h.alloc _).alloc _, (Blk.new _ _ _).alloc _, Blk.newEq (by simp)⟩ ?_
  rintro W1 ⟨hC1, hB1, hA1, hR1⟩
  have hS : ∀ W, Chg [] W1 W → W.cell? ⟨w.heap.size, 0, none⟩ = some (.int .i64 a) ∧ W.cell? ⟨w.heap.size, 1, none⟩ = some (.int .i64 (a + nw x.1.size : Nat)) ∧ W.cell? ⟨w.heap.size, 3, none⟩ = some (.int .i64 x.1.size) ∧ Chg [] W1 W := fun W hW => by
    obtain ⟨e0, e1, e2, e3, e4⟩ := entA_cells (hA1.ext hW)
    exact ⟨e0, e1, e3, hW⟩
  go_region_held3 (fun W => W.cell? ⟨w.heap.size, 0, none⟩ = some (.int .i64 a) ∧ W.cell? ⟨w.heap.size, 1, none⟩ = some (.int .i64 (a + nw x.1.size : Nat)) ∧ W.cell? ⟨w.heap.size, 3, none⟩ = some (.int .i64 x.1.size) ∧ Chg [] W1 W) (first | exact hS _ ((Chg.refl _ _).drew) | exact hS _ ((‹_ ∧ _ ∧ _ ∧ Chg [] W1 _›.2.2.2).nil (by assumption)) | exact ‹_ ∧ _ ∧ _ ∧ Chg [] W1 _›) (first | (go_at_call 170; refine (unpack_w x.1 _ _ (by omega) (hSk _ _ hB1.drew (by omega) (by omega))).mono ?_; rintro e w2 ⟨rfl, hC2⟩))
  have hC3 := hC1.drew.trans hC2
  have hB3 := hB1.drew.ext hC2
  have hA3 := hA1.drew.ext hC2
  have hR3 := hR1.drew.ext hC2
  clear hS
  go_wp2
  have hS : ∀ W, Chg [] w2 W → W.cell? ⟨w.heap.size, 1, none⟩ = some (.int .i64 (a + nw x.1.size : Nat)) ∧ W.cell? ⟨w.heap.size, 2, none⟩ = some (.int .i64 (a + nw x.1.size + nw x.2.size : Nat)) ∧ W.cell? ⟨w.heap.size, 4, none⟩ = some (.int .i64 x.2.size) ∧ Chg [] w2 W := fun W hW => by
    obtain ⟨e0, e1, e2, e3, e4⟩ := entA_cells (hA3.ext hW)
    exact ⟨e1, e2, e4, hW⟩
  go_region_held3 (fun W => W.cell? ⟨w.heap.size, 1, none⟩ = some (.int .i64 (a + nw x.1.size : Nat)) ∧ W.cell? ⟨w.heap.size, 2, none⟩ = some (.int .i64 (a + nw x.1.size + nw x.2.size : Nat)) ∧ W.cell? ⟨w.heap.size, 4, none⟩ = some (.int .i64 x.2.size) ∧ Chg [] w2 W) (first | exact hS _ ((Chg.refl _ _).drew) | exact hS _ ((‹_ ∧ _ ∧ _ ∧ Chg [] w2 _›.2.2.2).nil (by assumption)) | exact ‹_ ∧ _ ∧ _ ∧ Chg [] w2 _›) (first | (go_at_call 170; refine (unpack_w x.2 _ _ (by omega) (hSv _ _ hB3.drew (by omega) (by omega))).mono ?_; rintro e w4 ⟨rfl, hC4⟩))
  have hR5 := hR3.drew.ext hC4
  have hC5 := hC3.drew.trans hC4
  go_wp2_with (refine wpList_store_blk rfl 93 (.tmp 4) (.tmp 41) rfl (w.heap.size + 1) rfl #[.string x.1, .string x.2] rfl 93 _ hR5 (by kernel_rfl) rfl (by simp [Value.oneCell']) ?_; intro w6 hC6 hs6 hB6)
  exact bodyPost_ret (res_row_tmp rfl _ hB6 rfl rfl Tryz.underlying93 rfl (by kernel_rfl)) rfl ⟨rfl, hC5.on hC6 (by simp)⟩

end Go.Proofs.YtpcaadipejnllaaGreatDoor

/- A page that is read: facts for the list. -/
set_option linter.unusedVariables false
set_option linter.unusedSimpArgs false
namespace Go.Proofs.YtpcaadipejnllaaGreatDoor
open Go.RowKit

/-- 128 flags. -/
def tkf (p : Nat → Bool) : Array Value := ((List.range 128).map fun j => Value.bool (p j)).toArray
theorem tkf_size (p : Nat → Bool) : (tkf p).size = 128 := by simp [tkf]
theorem tkf_get (p : Nat → Bool) (j : Nat) (h : j < 128) : (tkf p)[j]? = some (.bool (p j)) := by simp [tkf, h]
theorem tkf_set (p q : Nat → Bool) (i : Nat) (hi : i < 128) (h1 : q i = true) (h2 : ∀ j, j ≠ i → q j = p j) : (tkf p).setIfInBounds i (.bool true) = tkf q := by
  apply Array.ext_getElem?
  intro j
  rw [Array.getElem?_setIfInBounds]
  by_cases e : i = j
  · subst e
    rw [if_pos rfl, if_pos (by rw [tkf_size]; exact hi), tkf_get _ _ hi, h1]
  · rw [if_neg e]
    by_cases hj : j < 128
    · rw [tkf_get _ _ hj, tkf_get _ _ hj, h2 j (fun h => e h.symm)]
    · rw [Array.getElem?_eq_none (by rw [tkf_size]; omega), Array.getElem?_eq_none (by rw [tkf_size]; omega)]
theorem tkf_congr {p q : Nat → Bool} (h : ∀ j, j < 128 → p j = q j) : tkf p = tkf q := by
  unfold tkf
  congr 1
  apply List.map_congr_left
  intro j hj
  rw [h j (List.mem_range.1 hj)]
theorem tkf_zero : tkf (fun _ => false) = Tryz.zeroCells228 := by kernel_rfl
theorem info93 : (Tryz.prog.info? 93).map (fun i => (i.zero, i.size, i.bytes)) = some (some (.agg #[.string ⟨#[]⟩, .string ⟨#[]⟩]), 2, 32) := by kernel_rfl

theorem pk_num (n : Nat) (h : n ≤ 511) : pk (numS n) 0 = n := by
  have hp : pk (numS n) 0 = ((((((((0 * 256 + byteAt (numS n) (8 * 0 + 0)) * 256 + byteAt (numS n) (8 * 0 + 1)) * 256 + byteAt (numS n) (8 * 0 + 2)) * 256 + byteAt (numS n) (8 * 0 + 3)) * 256 + byteAt (numS n) (8 * 0 + 4)) * 256 + byteAt (numS n) (8 * 0 + 5)) * 256 + byteAt (numS n) (8 * 0 + 6)) * 256 + byteAt (numS n) (8 * 0 + 7)) := rfl
  rw [hp, numS_byte n _ (by omega), numS_byte n _ (by omega), numS_byte n _ (by omega), numS_byte n _ (by omega), numS_byte n _ (by omega), numS_byte n _ (by omega), numS_byte n _ (by omega), numS_byte n _ (by omega)]
  simp
  omega

/-- The entries of a page as they lie. -/
theorem IsPage.ent {pg : List Nat} {g : PG} (h : IsPage pg g) {k : Nat} {x : Pr} (hk : g.l[k]? = some x) : EntAt pg k (128 - recs (g.l.take (k + 1))) x ∧ 128 - recs g.l ≤ 128 - recs (g.l.take (k + 1)) ∧ recs (g.l.take (k + 1)) = recs (g.l.take k) + rec_ x ∧ recs (g.l.take (k + 1)) ≤ 108 := by
  obtain ⟨a1, a2, a3⟩ := h.body.ent k x hk
  have hle := load_eq g.l
  have hf := h.ok.fit
  have hkl : k < g.l.length := (List.getElem?_eq_some_iff.1 hk).1
  have ht := recs_take g.l (k + 1)
  have hs : recs (g.l.take (k + 1)) = recs (g.l.take k) + rec_ x := by
    rw [List.take_add_one, hk, recs_app]; simp [recs_one]
  exact ⟨⟨a1, a2, a3, by omega, by omega⟩, by omega, hs, by omega⟩

end Go.Proofs.YtpcaadipejnllaaGreatDoor

/- A page that is read: the walk of list. -/
set_option linter.unusedVariables false
set_option linter.unusedSimpArgs false
namespace Go.Proofs.YtpcaadipejnllaaGreatDoor
open Go.RowKit

theorem two_at (w : World) (t : TypeId) (u v : Value) : ∀ (j : Nat) (x : Value), [u, v][j]? = some x → (w.alloc (.cells #[u, v] t)).cell? ((⟨w.heap.size, 0, none⟩ : Addr).add j) = some x := by
  intro j x hj
  have hB := Blk.new w t #[u, v]
  rw [add_mk, Nat.zero_add, hB.cell]
  match j, hj with
  | 0, hj => simpa using hj
  | 1, hj => simpa using hj
  | n + 2, hj => simp at hj

theorem own_ne {w : World} {base : Nat} {e t : TypeId} {size n tb q : Nat} {v : Value} {xs : List Value} {cs : Array Value} (h : w.ownsRow base e size v n xs) (hT : Blk w tb t cs) (hne : e ≠ t) (hq : v.ownBlock = some q) : q ≠ tb := by
  rcases h.2 with ⟨rfl, _⟩ | ⟨g, cap, cur, rfl, hb, hg, _⟩
  · cases hq
  · injection hq with hq
    subst hq
    exact Blk.ne_ (t := e) (cs := cur) hg hT hne

set_option maxRecDepth 100000 in
set_option maxHeartbeats 1000000 in
theorem list_w (b : Nat) (pg : List Nat) (g : PG) (w : World) (h : Blk w b 72 (nums pg)) (hP : IsPage pg g) :
    Calls Tryz.prog 105 #[.pointer (some ⟨b, 0, none⟩)] w fun e w' => ∃ v, e = .returned (.tuple #[v, .bool true]) ∧ w'.ownsRow w.heap.size 93 2 v g.l.length (prs g.l) ∧ Chg [] w w' := by
  obtain ⟨i0, hi, hz0, hz1, hz2⟩ := info_parts info93
  have hl := hP.head.len
  have h5 := hP.lvl5
  have hle := load_eq g.l
  have hf := hP.ok.fit
  have hbl := h.lt
  go_enter Tryz.func105, Tryz.ntmps105
  go_wp2_with (first
    | (go_at_call 137; refine (head_w b pg g _ h hP).mono ?_; rintro e w1 ⟨rfl, hC1⟩; have hB1 := h.ext hC1; have c9 := hB1.num 9 (by omega); rw [hP.body.cnt] at c9; have hblt1 := hB1.lt))
  have hT1 : Blk (w1.alloc (.cells Tryz.zeroCells228 228)) w1.heap.size 228 (tkf (fun _ => false)) := by rw [tkf_zero]; exact Blk.new w1 228 _
  have hlt1 := hC1.size
  clear c9
  go_loopw [4, 19] (fun v i wr => ∃ k : Nat, k ≤ g.l.length ∧ i = .int .i64 k ∧ Chg [] w wr ∧ wr.ownsRow w.heap.size 93 2 v k (prs (g.l.take k)) ∧ Blk wr w1.heap.size 228 (tkf (fun j => decide (128 - recs (g.l.take k) ≤ j))) ∧ (∀ q, v.ownBlock = some q → q ≠ w1.heap.size)) (fun _ i _ => g.l.length - (intOf i).toNat)
  case atStart =>
    refine ⟨0, by omega, rfl, hC1.alloc _, World.ownsRow_nil _ _ _ _, ?_, fun q hq => by cases hq⟩
    rw [tkf_congr (q := fun _ => false) (fun j hj => by simp [recs]; omega)]
    exact hT1
  case round =>
    obtain ⟨k, hk, rfl, hC, hown, hT, hne⟩ := hrel
    have hB := h.ext hC
    by_cases hlt : k < g.l.length
    · obtain ⟨x, hxk⟩ : ∃ x, g.l[k]? = some x := ⟨_, List.getElem?_eq_getElem hlt⟩
      obtain ⟨hE, hta, hrs, hr8⟩ := hP.ent hxk
      have hO := hP.ok.ok x (List.mem_of_getElem? hxk)
      obtain ⟨a, ha⟩ : ∃ a, a = 128 - recs (g.l.take (k + 1)) := ⟨_, rfl⟩
      rw [← ha] at hE hta
      have hal : a + recs (g.l.take k) + rec_ x = 128 := by omega
      have hhi := hE.hi
      have hlo := hE.lo
      have hks : x.1.size < 256 := by have := hO.k; omega
      have hvs : x.2.size < 256 := by have := hO.v; omega
      have hDir := Lib.hid hE.dir
      clear ha
      go_wp2_with (first
        | (go_at_call 138; refine (sized_w b pg g k a x _ hB hP hE hxk hta).mono ?_; rintro e w2 ⟨rfl, hC2⟩; have hB2 := hB.ext hC2; have cd := hB2.num (20 + k) (by omega); rw [hDir.out] at cd)
        | (go_at_call 139; refine (entry_w a x.1.size x.2.size _ (by omega) hks hvs).mono ?_; rintro e w3 ⟨rfl, hC3⟩; clear cd)
        | (refine wpList_store_blk rfl 231 (.tmp 7) (.tmp 32) rfl w3.heap.size rfl (entA a x.1.size x.2.size) rfl 231 _ (Blk.new w3 231 _) (by kernel_rfl) rfl (by simp [entA, Value.oneCell']) ?_; intro w4 hC4 hs4 hB4; have hBp4 := ((hB2.ext hC3).alloc _).chg hC4 (by have := hB2.lt; have := hC3.size; simp; omega))
        | (refine wpList_load_row rfl 231 (.tmp 7) rfl w3.heap.size rfl 231 (entA a x.1.size x.2.size) (0, 0) _ hB4 Tryz.underlying231 rfl (by kernel_rfl) ?_)
        | (go_at_call 140; refine (text_w b pg k a x _ hBp4 hl hE hO).mono ?_; rintro e w5 ⟨rfl, hC5⟩)
        | (refine wpList_store_blk rfl 93 (.tmp 8) (.tmp 37) rfl w5.heap.size rfl #[.string x.1, .string x.2] rfl 93 _ (Blk.new w5 93 _) (by kernel_rfl) rfl (by simp [Value.oneCell']) ?_; intro w6 hC6 hs6 hB6))
      have D3 := hC2.trans hC3
      have s3 := D3.size
      have D4 : Chg [] wr w4 := (D3.alloc _).on hC4 (fun i hi => .inr (by simp at hi; omega))
      have D5 := D4.trans hC5
      have s5 := D5.size
      have D6 : Chg [] wr w6 := (D5.alloc _).on hC6 (fun i hi => .inr (by simp at hi; omega))
      have hBp6 : Blk w6 b 72 (nums pg) := hB.ext D6
      have s45 := hC5.size
      have hA6 : Blk w6 w3.heap.size 231 (entA a x.1.size x.2.size) := ((hB4.ext hC5).alloc _).chg hC6 (by simp at hs4; simp; omega)
      have hT6 := hT.ext D6
      have hown6 := own_ext hown D6
      have hCC6 := hC.trans D6
      obtain ⟨e0, e1, e2, e3, e4⟩ := entA_cells hA6
      have c8 := hBp6.num 8 (by omega)
      rw [hP.head.kind] at c8
      have hCC7 : ∃ W, Chg [] w W ∧ Blk W b 72 (nums pg) := ⟨w6, hCC6, hBp6⟩
      have hq : ∀ n, n ≤ 511 → x.2 = numS n → w6.cell? ⟨b, a + nw x.1.size, none⟩ = some (.int .u64 (n : Int)) := fun n hn hv => by
        rw [hBp6.num _ (by have : rec_ x = nw x.1.size + nw x.2.size := rfl; have : 0 < nw x.2.size := by (have := hO.p; unfold nw; omega)
                           omega), show a + nw x.1.size = a + nw x.1.size + 0 from rfl, hE.vw 0 (by have := hO.p; unfold nw; omega), hv, pk_num n hn]
      have hr : rec_ x = nw x.1.size + nw x.2.size := rfl
      have hwm : IntKind.i64.wrap ((a : Int) + (nw x.1.size : Int)) = (a : Int) + (nw x.1.size : Int) := by rw [← Int.natCast_add]; exact wrap_nat _ (by omega)
      have hnv : 0 < nw x.2.size := by have := hO.p; unfold nw; omega
      by_cases h0 : g.lvl = 0
      · have z1 : decide (1 < (g.lvl : Int) + 1) = false := decide_eq_false (by omega)
        go_quiet (fail)
        go_wp2
        have hA7 := hA6.drewN nq
        have hT7 := hT6.drewN nq
        have hB7 := hB6.drewN nq
        have hown7 := own_ext hown6 ((Chg.refl [] w6).drewN nq)
        have hCC7 := hCC6.drewN nq
        have hltT := hT.lt
        have hne1 : w3.heap.size ≠ w1.heap.size := by omega
        have hne2 : w5.heap.size ≠ w1.heap.size := by omega
        clear e0 e1 e2 e3 e4 c8
        go_loopw [10] (fun i wi => ∃ j : Nat, a ≤ j ∧ j ≤ a + rec_ x ∧ i = .int .i64 j ∧ Chg [w1.heap.size] (w6.drewN nq) wi ∧ Blk wi w1.heap.size 228 (tkf (fun q => decide (a + rec_ x ≤ q) || (decide (a ≤ q) && decide (q < j))))) (fun i _ => a + rec_ x - (intOf i).toNat)
        case atStart =>
          refine ⟨a, by omega, by omega, rfl, Chg.refl _ _, ?_⟩
          rw [tkf_congr (q := fun j => decide (128 - recs (g.l.take k) ≤ j)) (fun j hj => by
            rw [show 128 - recs (g.l.take k) = a + rec_ x by omega]
            by_cases h : a ≤ j
            · simp [show ¬ j < a by omega]
            · simp [h])]
          exact hT7
        case round =>
          obtain ⟨j, hj1, hj2, rfl, hCi, hTi⟩ := hrel
          have hAi := hA7.chg hCi (by simp; omega)
          obtain ⟨e0, e1, e2, e3, e4⟩ := entA_cells hAi
          by_cases hlj : j < a + rec_ x
          · have ct := hTi.cell j
            rw [tkf_get _ _ (by omega)] at ct
            simp only [show decide (a + rec_ x ≤ j) = false from decide_eq_false (by omega), show decide (j < j) = false from decide_eq_false (by omega), Bool.and_false, Bool.or_false] at ct
            have ft := hTi.frozen j
            go_wp2
            go_roundw
            case rel =>
              refine ⟨j + 1, by omega, by omega, by go_num, hCi.set _ (by simp) _, hTi.setEq (tkf_set _ _ j (by omega) ?_ ?_)⟩
              · simp [show a ≤ j from hj1]
              · intro q hq
                have : decide (q < j + 1) = decide (q < j) := by
                  by_cases h : q < j
                  · rw [decide_eq_true h, decide_eq_true (by omega)]
                  · rw [decide_eq_false h, decide_eq_false (by omega)]
                rw [this]
            case measure => simp [intOf]; omega
          · obtain rfl : j = a + rec_ x := by omega
            have hBi := hB7.chg hCi (by simp; omega)
            have b0 : _ = some (Value.string x.1) := hBi.cell 0
            have b1 : _ = some (Value.string x.2) := hBi.cell 1
            have hownI := own_chg hown7 hCi (fun q hq => by have := hne q hq; simpa using this)
            have hCCi := hCC7.on hCi (fun i hi => .inr (by simp at hi; omega))
            have hszJ := hCCi.size
            have hlen8 : g.l.length ≤ 108 := by omega
            go_wp2_with (at_builtin; go_loud (refine wpList_append_own _ rfl _ _ 94 rfl w.heap.size 93 i0 (.agg #[.string ⟨#[]⟩, .string ⟨#[]⟩]) 2 32 Tryz.underlying94 hi hz0 hz1 hz2 rfl (by decide) _ _ _ rfl (hownI.alloc _) _ 1 1 [.string x.1, .string x.2] rfl rfl (two_at _ _ _ _) (by simp [Value.oneCell']) (by unfold maxLen; omega) (by omega) (by simp; omega) ?_; intro v' w9 hown9 hg9 _))
            have hC9 := (hCCi.alloc _).app (hownI.alloc _) (Nat.le_refl _) hg9
            go_roundw
            case rel =>
              have hs9 : (wr.alloc (.cells #[.string x.1, .string x.2] 93)).heap.size = wr.heap.size + 1 := by simp
              refine ⟨k + 1, by omega, by go_num, hC9, ?_, ?_, ?_⟩
              · rw [List.take_add_one, hxk, prs_app]
                simpa [prs] using hown9
              · have hT9 := (hTi.alloc (.cells #[.string x.1, .string x.2] 93)).grown hg9 (fun e => hne _ e.symm rfl)
                rw [tkf_congr (q := fun j => decide (128 - recs (g.l.take (k + 1)) ≤ j)) (fun j hj => by
                  rw [show 128 - recs (g.l.take (k + 1)) = a by omega]
                  by_cases h : a ≤ j
                  · by_cases h2 : j < a + rec_ x
                    · simp [h, h2]
                    · simp [h, h2]; omega
                  · simp [h]; omega)] at hT9
                exact hT9
              · have hT9 := (hTi.alloc (.cells #[.string x.1, .string x.2] 93)).grown hg9 (fun e => hne _ e.symm rfl)
                exact fun q hq => own_ne hown9 hT9 (by decide) hq
            case measure => simp [intOf]; omega
      · obtain ⟨_, n, n1, n2, hvn⟩ := hP.ok.keyN h0 k x hxk
        have z1 : decide (1 < (g.lvl : Int) + 1) = true := decide_eq_true (by omega)
        have z2 : decide ((n : Int) < 1) = false := decide_eq_false (by omega)
        have z3 : decide (511 < (n : Int)) = false := decide_eq_false (by omega)
        have cn := hq n n2 hvn
        clear hvn
        go_quiet (fail)
        go_wp2
        have hA7 := hA6.drewN nq
        have hT7 := hT6.drewN nq
        have hB7 := hB6.drewN nq
        have hown7 := own_ext hown6 ((Chg.refl [] w6).drewN nq)
        have hCC7 := hCC6.drewN nq
        have hltT := hT.lt
        have hne1 : w3.heap.size ≠ w1.heap.size := by omega
        have hne2 : w5.heap.size ≠ w1.heap.size := by omega
        clear e0 e1 e2 e3 e4 c8
        go_loopw [10] (fun i wi => ∃ j : Nat, a ≤ j ∧ j ≤ a + rec_ x ∧ i = .int .i64 j ∧ Chg [w1.heap.size] (w6.drewN nq) wi ∧ Blk wi w1.heap.size 228 (tkf (fun q => decide (a + rec_ x ≤ q) || (decide (a ≤ q) && decide (q < j))))) (fun i _ => a + rec_ x - (intOf i).toNat)
        case atStart =>
          refine ⟨a, by omega, by omega, rfl, Chg.refl _ _, ?_⟩
          rw [tkf_congr (q := fun j => decide (128 - recs (g.l.take k) ≤ j)) (fun j hj => by
            rw [show 128 - recs (g.l.take k) = a + rec_ x by omega]
            by_cases h : a ≤ j
            · simp [show ¬ j < a by omega]
            · simp [h])]
          exact hT7
        case round =>
          obtain ⟨j, hj1, hj2, rfl, hCi, hTi⟩ := hrel
          have hAi := hA7.chg hCi (by simp; omega)
          obtain ⟨e0, e1, e2, e3, e4⟩ := entA_cells hAi
          by_cases hlj : j < a + rec_ x
          · have ct := hTi.cell j
            rw [tkf_get _ _ (by omega)] at ct
            simp only [show decide (a + rec_ x ≤ j) = false from decide_eq_false (by omega), show decide (j < j) = false from decide_eq_false (by omega), Bool.and_false, Bool.or_false] at ct
            have ft := hTi.frozen j
            go_wp2
            go_roundw
            case rel =>
              refine ⟨j + 1, by omega, by omega, by go_num, hCi.set _ (by simp) _, hTi.setEq (tkf_set _ _ j (by omega) ?_ ?_)⟩
              · simp [show a ≤ j from hj1]
              · intro q hq
                have : decide (q < j + 1) = decide (q < j) := by
                  by_cases h : q < j
                  · rw [decide_eq_true h, decide_eq_true (by omega)]
                  · rw [decide_eq_false h, decide_eq_false (by omega)]
                rw [this]
            case measure => simp [intOf]; omega
          · obtain rfl : j = a + rec_ x := by omega
            have hBi := hB7.chg hCi (by simp; omega)
            have b0 : _ = some (Value.string x.1) := hBi.cell 0
            have b1 : _ = some (Value.string x.2) := hBi.cell 1
            have hownI := own_chg hown7 hCi (fun q hq => by have := hne q hq; simpa using this)
            have hCCi := hCC7.on hCi (fun i hi => .inr (by simp at hi; omega))
            have hszJ := hCCi.size
            have hlen8 : g.l.length ≤ 108 := by omega
            go_wp2_with (at_builtin; go_loud (refine wpList_append_own _ rfl _ _ 94 rfl w.heap.size 93 i0 (.agg #[.string ⟨#[]⟩, .string ⟨#[]⟩]) 2 32 Tryz.underlying94 hi hz0 hz1 hz2 rfl (by decide) _ _ _ rfl (hownI.alloc _) _ 1 1 [.string x.1, .string x.2] rfl rfl (two_at _ _ _ _) (by simp [Value.oneCell']) (by unfold maxLen; omega) (by omega) (by simp; omega) ?_; intro v' w9 hown9 hg9 _))
            have hC9 := (hCCi.alloc _).app (hownI.alloc _) (Nat.le_refl _) hg9
            go_roundw
            case rel =>
              have hs9 : (wr.alloc (.cells #[.string x.1, .string x.2] 93)).heap.size = wr.heap.size + 1 := by simp
              refine ⟨k + 1, by omega, by go_num, hC9, ?_, ?_, ?_⟩
              · rw [List.take_add_one, hxk, prs_app]
                simpa [prs] using hown9
              · have hT9 := (hTi.alloc (.cells #[.string x.1, .string x.2] 93)).grown hg9 (fun e => hne _ e.symm rfl)
                rw [tkf_congr (q := fun j => decide (128 - recs (g.l.take (k + 1)) ≤ j)) (fun j hj => by
                  rw [show 128 - recs (g.l.take (k + 1)) = a by omega]
                  by_cases h : a ≤ j
                  · by_cases h2 : j < a + rec_ x
                    · simp [h, h2]
                    · simp [h, h2]; omega
                  · simp [h]; omega)] at hT9
                exact hT9
              · have hT9 := (hTi.alloc (.cells #[.string x.1, .string x.2] 93)).grown hg9 (fun e => hne _ e.symm rfl)
                exact fun q hq => own_ne hown9 hT9 (by decide) hq
            case measure => simp [intOf]; omega
    · obtain rfl : k = g.l.length := by omega
      rw [List.take_length] at hown
      go_wp2
      go_ret2
      exact ⟨_, rfl, hown, hC⟩

end Go.Proofs.YtpcaadipejnllaaGreatDoor

/- A page that is read: the exported readers. -/
set_option linter.unusedVariables false
set_option linter.unusedSimpArgs false
namespace Go.Proofs.YtpcaadipejnllaaGreatDoor
open Go.RowKit

theorem own_base {w : World} {base b' : Nat} {e : TypeId} {size n : Nat} {v : Value} {xs : List Value} (h : w.ownsRow base e size v n xs) (hb : b' ≤ base) : w.ownsRow b' e size v n xs := by
  refine ⟨h.1, ?_⟩
  rcases h.2 with h2 | ⟨g, cap, cur, rfl, hbg, rest⟩
  · exact .inl h2
  · exact .inr ⟨g, cap, cur, rfl, Nat.le_trans hb hbg, rest⟩

set_option maxRecDepth 100000 in
set_option maxHeartbeats 1000000 in
theorem valid_w (pg : List Nat) (g : PG) (w : World) (hP : IsPage pg g) :
    Calls Tryz.prog 64 #[.agg (nums pg)] w fun e w' => e = .returned (.bool true) ∧ Chg [] w w' := by
  have hsz : (nums pg).size = 128 := by rw [nums_size]; exact hP.head.len
  have hB0 := Blk.new w 72 (nums pg)
  have hC0 : Chg [] w (w.alloc (.cells (nums pg) 72)) := (Chg.refl _ _).alloc _
  have hl := hP.head.len
  have hle := load_eq g.l
  have hf := hP.ok.fit
  have h5 := hP.lvl5
  go_enter Tryz.func64, Tryz.ntmps64
  go_wp2_with (first
    | (go_at_call 105; refine (list_w w.heap.size pg g _ hB0 hP).mono ?_; rintro e w1 ⟨v, rfl, hown, hC1⟩; have hB1 := hB0.ext hC1; have hown1 := own_base (b' := w.heap.size) hown (by simp)))
  go_ret
  exact ⟨rfl, hC0.trans hC1⟩

theorem IsPage.is {pg : List Nat} {g : PG} (h : IsPage pg g) : IsPg pg := ⟨h.head.len, h.head.z⟩
theorem IsPage.valid {pg : List Nat} {g : PG} (h : IsPage pg g) : ValidP pg := fun w => valid_w pg g w h

set_option maxRecDepth 100000 in
set_option maxHeartbeats 1000000 in
theorem level_w (pg : List Nat) (g : PG) (w : World) (hP : IsPage pg g) :
    Calls Tryz.prog 147 #[.agg (nums pg)] w fun e w' => e = .returned (.int .i64 g.lvl) ∧ Chg [] w w' := by
  have hsz : (nums pg).size = 128 := by rw [nums_size]; exact hP.head.len
  have hB0 := Blk.new w 72 (nums pg)
  have hC0 : Chg [] w (w.alloc (.cells (nums pg) 72)) := (Chg.refl _ _).alloc _
  have hl := hP.head.len
  have hle := load_eq g.l
  have hf := hP.ok.fit
  have h5 := hP.lvl5
  go_enter Tryz.func147, Tryz.ntmps147
  go_wp2_with (first
    | (refine wpList_load_row rfl 72 (.tmp 1) rfl w.heap.size rfl 72 (nums pg) (0, 0) _ hB0 Tryz.underlying72 rfl (hsz ▸ (by kernel_rfl)) ?_)
    | (go_at_call 64; refine (valid_w pg g _ hP).mono ?_; rintro e w1 ⟨rfl, hC1⟩; have hB1 := hB0.ext hC1; have c8 := hB1.num 8 (by omega); rw [hP.head.kind] at c8; have c10 := hB1.num 10 (by omega); rw [hP.head.nxt] at c10))
  go_ret
  exact ⟨by go_num, hC0.trans hC1⟩

set_option maxRecDepth 100000 in
set_option maxHeartbeats 1000000 in
theorem next_w (pg : List Nat) (g : PG) (w : World) (hP : IsPage pg g) :
    Calls Tryz.prog 132 #[.agg (nums pg)] w fun e w' => e = .returned (.int .i64 g.next) ∧ Chg [] w w' := by
  have hnx := hP.nx
  have hsz : (nums pg).size = 128 := by rw [nums_size]; exact hP.head.len
  have hB0 := Blk.new w 72 (nums pg)
  have hC0 : Chg [] w (w.alloc (.cells (nums pg) 72)) := (Chg.refl _ _).alloc _
  have hl := hP.head.len
  have hle := load_eq g.l
  have hf := hP.ok.fit
  have h5 := hP.lvl5
  go_enter Tryz.func132, Tryz.ntmps132
  go_wp2_with (first
    | (refine wpList_load_row rfl 72 (.tmp 1) rfl w.heap.size rfl 72 (nums pg) (0, 0) _ hB0 Tryz.underlying72 rfl (hsz ▸ (by kernel_rfl)) ?_)
    | (go_at_call 64; refine (valid_w pg g _ hP).mono ?_; rintro e w1 ⟨rfl, hC1⟩; have hB1 := hB0.ext hC1; have c8 := hB1.num 8 (by omega); rw [hP.head.kind] at c8; have c10 := hB1.num 10 (by omega); rw [hP.head.nxt] at c10))
  go_ret
  exact ⟨by go_num, hC0.trans hC1⟩

set_option maxRecDepth 100000 in
set_option maxHeartbeats 1000000 in
theorem len_w (pg : List Nat) (g : PG) (w : World) (hP : IsPage pg g) :
    Calls Tryz.prog 165 #[.agg (nums pg)] w fun e w' => e = .returned (.int .i64 g.l.length) ∧ Chg [] w w' := by
  have hsz : (nums pg).size = 128 := by rw [nums_size]; exact hP.head.len
  have hB0 := Blk.new w 72 (nums pg)
  have hC0 : Chg [] w (w.alloc (.cells (nums pg) 72)) := (Chg.refl _ _).alloc _
  have hl := hP.head.len
  have hle := load_eq g.l
  have hf := hP.ok.fit
  have h5 := hP.lvl5
  go_enter Tryz.func165, Tryz.ntmps165
  go_wp2_with (first
    | (go_at_call 105; refine (list_w w.heap.size pg g _ hB0 hP).mono ?_; rintro e w1 ⟨v, rfl, hown, hC1⟩; obtain ⟨A, c, rfl, _, _⟩ := (Sl.own hown).form))
  go_ret
  exact ⟨rfl, hC0.trans hC1⟩

set_option maxRecDepth 100000 in
set_option maxHeartbeats 1000000 in
theorem pairs_w (pg : List Nat) (g : PG) (w : World) (hP : IsPage pg g) :
    Calls Tryz.prog 146 #[.agg (nums pg)] w fun e w' => ∃ v, e = .returned (.tuple #[v, .int .i64 0]) ∧ w'.ownsRow w.heap.size 93 2 v g.l.length (prs g.l) ∧ Chg [] w w' := by
  have hsz : (nums pg).size = 128 := by rw [nums_size]; exact hP.head.len
  have hB0 := Blk.new w 72 (nums pg)
  have hC0 : Chg [] w (w.alloc (.cells (nums pg) 72)) := (Chg.refl _ _).alloc _
  have hl := hP.head.len
  have hle := load_eq g.l
  have hf := hP.ok.fit
  have h5 := hP.lvl5
  go_enter Tryz.func146, Tryz.ntmps146
  go_wp2_with (first
    | (go_at_call 105; refine (list_w w.heap.size pg g _ hB0 hP).mono ?_; rintro e w1 ⟨v, rfl, hown, hC1⟩; have hB1 := hB0.ext hC1; have hown1 := own_base (b' := w.heap.size) hown (by simp)))
  go_ret2
  exact ⟨v, rfl, hown1, hC0.trans hC1⟩

set_option maxRecDepth 100000 in
set_option maxHeartbeats 1000000 in
theorem fences_w (pg : List Nat) (g : PG) (w : World) (hP : IsPage pg g) :
    Calls Tryz.prog 145 #[.agg (nums pg)] w fun e w' => e = .returned (.tuple #[.string g.low, .string g.high, .int .i64 0]) ∧ Chg [] w w' := by
  have hsz : (nums pg).size = 128 := by rw [nums_size]; exact hP.head.len
  have hB0 := Blk.new w 72 (nums pg)
  have hC0 : Chg [] w (w.alloc (.cells (nums pg) 72)) := (Chg.refl _ _).alloc _
  have hl := hP.head.len
  have hle := load_eq g.l
  have hf := hP.ok.fit
  have h5 := hP.lvl5
  go_enter Tryz.func145, Tryz.ntmps145
  go_wp2_with (first
    | (refine wpList_load_row rfl 72 (.tmp 1) rfl w.heap.size rfl 72 (nums pg) (0, 0) _ hB0 Tryz.underlying72 rfl (hsz ▸ (by kernel_rfl)) ?_)
    | (go_at_call 64; refine (valid_w pg g _ hP).mono ?_; rintro e w1 ⟨rfl, hC1⟩; have hB1 := hB0.ext hC1; have c8 := hB1.num 8 (by omega); rw [hP.head.kind] at c8; have c10 := hB1.num 10 (by omega); rw [hP.head.nxt] at c10)
    | (go_at_call 169; have _h0 := hC2; refine (fence_w w.heap.size 16 pg g.high _ (hB1.ext hC2) hl (by omega) hP.head.high_).mono ?_; rintro e w3 ⟨rfl, hC3⟩)
    | (go_at_call 169; refine (fence_w w.heap.size 12 pg g.low _ hB1 hl (by omega) hP.head.low_).mono ?_; rintro e w2 ⟨rfl, hC2⟩))
  refine bodyPost_ret (results_tmp3 rfl _ _ _) rfl ⟨rfl, ((hC0.trans hC1).trans hC2).trans hC3⟩

set_option maxRecDepth 100000 in
set_option maxHeartbeats 1000000 in
theorem pair_w (b : Nat) (pg : List Nat) (g : PG) (k : Nat) (x : Pr) (w : World) (h : Blk w b 72 (nums pg)) (hP : IsPage pg g) (hk : g.l[k]? = some x) :
    Calls Tryz.prog 195 #[.pointer (some ⟨b, 0, none⟩), .int .i64 k] w fun e w' => e = .returned (.tuple #[.agg #[.string x.1, .string x.2], .int .i64 0]) ∧ Chg [] w w' := by
  have hkl : k < g.l.length := (List.getElem?_eq_some_iff.1 hk).1
  have hle := load_eq g.l
  have hf := hP.ok.fit
  have hR0 := Blk.new w 93 #[.string ⟨#[]⟩, .string ⟨#[]⟩]
  obtain ⟨g1, g2⟩ := prs_get g.l k x hk
  go_enter Tryz.func195, Tryz.ntmps195
  go_wp2_with (first
    | (go_at_call 105; refine (list_w b pg g _ (h.alloc _) hP).mono ?_; rintro e w1 ⟨v, rfl, hown, hC1⟩; obtain ⟨A, c, rfl, _, _⟩ := (Sl.own hown).form; obtain ⟨s, o, rfl, hs, hx⟩ := (Sl.own hown).at_ (by omega); have d1 := hx (k * 2) (by omega); have d2 := hx (k * 2 + 1) (by omega); rw [g1] at d1; rw [g2, ← Nat.add_assoc] at d2; clear hx g1 g2; have hR1 := hR0.ext hC1)
    | (refine wpList_store_blk rfl 93 (.tmp 4) (.tmp 30) rfl w.heap.size rfl #[.string x.1, .string x.2] rfl 93 _ hR1 (by kernel_rfl) rfl (by simp [Value.oneCell']) ?_; intro w6 hC6 hs6 hB6))
  exact bodyPost_ret (res_row_tmp rfl _ hB6 rfl rfl Tryz.underlying93 rfl (by kernel_rfl)) rfl ⟨rfl, (((Chg.refl _ _).alloc _).trans hC1).on hC6 (by simp)⟩

end Go.Proofs.YtpcaadipejnllaaGreatDoor

/- The order of strings. -/
set_option linter.unusedVariables false
set_option linter.unusedSimpArgs false
namespace Go.Proofs.YtpcaadipejnllaaGreatDoor
open Go.RowKit

theorem cb_cons (a b : UInt8) (xs ys : List UInt8) : Lib.compareBytes (a :: xs) (b :: ys) = if a < b then -1 else if b < a then 1 else Lib.compareBytes xs ys := rfl
theorem cb_vals : ∀ a b : List UInt8, Lib.compareBytes a b = -1 ∨ Lib.compareBytes a b = 0 ∨ Lib.compareBytes a b = 1
  | [], [] => .inr (.inl rfl)
  | [], _ :: _ => .inl rfl
  | _ :: _, [] => .inr (.inr rfl)
  | a :: xs, b :: ys => by
    rw [cb_cons]
    have := cb_vals xs ys
    split
    · exact .inl rfl
    · split
      · exact .inr (.inr rfl)
      · exact this
theorem u8_lt {a b : UInt8} : a < b ↔ a.toNat < b.toNat := UInt8.lt_iff_toNat_lt
theorem cb_refl : ∀ a : List UInt8, Lib.compareBytes a a = 0
  | [] => rfl
  | a :: xs => by rw [cb_cons, if_neg (by rw [u8_lt]; omega), if_neg (by rw [u8_lt]; omega), cb_refl xs]
theorem cb_eq : ∀ a b : List UInt8, Lib.compareBytes a b = 0 → a = b
  | [], [], _ => rfl
  | [], _ :: _, h => by cases h
  | _ :: _, [], h => by cases h
  | a :: xs, b :: ys, h => by
    rw [cb_cons] at h
    split at h
    · cases h
    · split at h
      · cases h
      · rename_i h1 h2
        rw [u8_lt] at h1 h2
        rw [cb_eq xs ys h, UInt8.toNat_inj.1 (show a.toNat = b.toNat by omega)]
theorem cb_anti : ∀ a b : List UInt8, Lib.compareBytes b a = - Lib.compareBytes a b
  | [], [] => rfl
  | [], _ :: _ => rfl
  | _ :: _, [] => rfl
  | a :: xs, b :: ys => by
    rw [cb_cons, cb_cons]
    by_cases h1 : a < b
    · rw [if_pos h1, if_neg (by rw [u8_lt] at *; omega), if_pos h1]; rfl
    · by_cases h2 : b < a
      · rw [if_pos h2, if_neg h1, if_pos h2]
      · rw [if_neg h2, if_neg h1, if_neg h1, if_neg h2, cb_anti xs ys]
theorem cb_trans : ∀ a b c : List UInt8, Lib.compareBytes a b < 0 → Lib.compareBytes b c < 0 → Lib.compareBytes a c < 0
  | [], [], _, h, _ => by simp [Lib.compareBytes] at h
  | [], _ :: _, [], _, h => by simp [Lib.compareBytes] at h
  | [], _ :: _, _ :: _, _, _ => by simp [Lib.compareBytes]
  | _ :: _, [], _, h, _ => by simp [Lib.compareBytes] at h
  | _ :: _, _ :: _, [], _, h => by simp [Lib.compareBytes] at h
  | a :: xs, b :: ys, c :: zs, h1, h2 => by
    rw [cb_cons] at h1 h2 ⊢
    have ih := cb_trans xs ys zs
    by_cases p : a < b
    · by_cases q : b < c
      · rw [if_pos (by rw [u8_lt] at *; omega)]; decide
      · rw [if_neg q] at h2
        by_cases r : c < b
        · rw [if_pos r] at h2; simp at h2
        · rw [if_pos (by rw [u8_lt] at *; omega)]; decide
    · rw [if_neg p] at h1
      by_cases p2 : b < a
      · rw [if_pos p2] at h1; simp at h1
      · rw [if_neg p2] at h1
        by_cases q : b < c
        · rw [if_pos (by rw [u8_lt] at *; omega)]; decide
        · rw [if_neg q] at h2
          by_cases r : c < b
          · rw [if_pos r] at h2; simp at h2
          · rw [if_neg r] at h2
            rw [if_neg (by rw [u8_lt] at *; omega), if_neg (by rw [u8_lt] at *; omega)]
            exact ih h1 h2

theorem cmp_vals (a b : ByteArray) : cmpS a b = -1 ∨ cmpS a b = 0 ∨ cmpS a b = 1 := cb_vals _ _
theorem cmp_refl (a : ByteArray) : cmpS a a = 0 := cb_refl _
theorem cmp_eq0 {a b : ByteArray} (h : cmpS a b = 0) : a = b := by
  apply ByteArray.ext
  apply Array.toList_inj.1
  exact cb_eq _ _ h
theorem cmp_anti (a b : ByteArray) : cmpS b a = - cmpS a b := cb_anti _ _
theorem cmp_trans {a b c : ByteArray} (h1 : cmpS a b < 0) (h2 : cmpS b c < 0) : cmpS a c < 0 := cb_trans _ _ _ h1 h2
theorem cmp_le_lt {a b c : ByteArray} (h1 : cmpS a b ≤ 0) (h2 : cmpS b c < 0) : cmpS a c < 0 := by
  rcases cmp_vals a b with h | h | h
  · exact cmp_trans (by omega) h2
  · rw [cmp_eq0 h]; exact h2
  · omega
theorem cmp_lt_le {a b c : ByteArray} (h1 : cmpS a b < 0) (h2 : cmpS b c ≤ 0) : cmpS a c < 0 := by
  rcases cmp_vals b c with h | h | h
  · exact cmp_trans h1 (by omega)
  · rw [← cmp_eq0 h]; exact h1
  · omega
theorem cmp_le_le {a b c : ByteArray} (h1 : cmpS a b ≤ 0) (h2 : cmpS b c ≤ 0) : cmpS a c ≤ 0 := by
  rcases cmp_vals a b with h | h | h
  · exact Int.le_of_lt (cmp_lt_le (by omega) h2)
  · rw [cmp_eq0 h]; exact h2
  · omega
theorem cmp_empty (b : ByteArray) (h : 0 < b.size) : cmpS ⟨#[]⟩ b < 0 := by
  unfold cmpS
  have h2 : b.data.toList.length = b.size := by simp
  cases hc : b.data.toList with
  | nil => rw [hc] at h2; simp at h2; omega
  | cons _ _ => show (-1 : Int) < 0; decide
theorem cmp_empty_le (b : ByteArray) : cmpS ⟨#[]⟩ b ≤ 0 := by
  rcases Nat.eq_zero_or_pos b.size with h | h
  · rw [empty_of h, cmp_refl]; exact Int.le_refl _
  · exact Int.le_of_lt (cmp_empty b h)

/-- A list in the order of its keys. -/
def Srt (l : List Pr) : Prop := ∀ (i j : Nat) (x y : Pr), i < j → l[i]? = some x → l[j]? = some y → cmpS x.1 y.1 < 0
theorem OkL.srt {lvl : Nat} {l : List Pr} (h : OkL lvl l) : Srt l := by
  intro i j x y hij hi hj
  obtain ⟨d, rfl⟩ : ∃ d, j = i + 1 + d := ⟨j - (i + 1), by omega⟩
  clear hij
  induction d generalizing y with
  | zero => exact h.ord i x y hi hj
  | succ d ih =>
    have hlt := (List.getElem?_eq_some_iff.1 hj).1
    obtain ⟨z, hz⟩ : ∃ z, l[i + 1 + d]? = some z := ⟨_, List.getElem?_eq_getElem (by omega)⟩
    exact cmp_trans (ih z hz) (h.ord (i + 1 + d) z y hz (by rw [← hj]; rfl))
/-- Where a key lies in a list. -/
structure PlaceAt (l : List Pr) (key : ByteArray) (i : Nat) (is : Bool) : Prop where
  le : i ≤ l.length
  lo : ∀ (j : Nat) (x : Pr), j < i → l[j]? = some x → cmpS x.1 key < 0
  hi : ∀ (j : Nat) (x : Pr), i ≤ j → l[j]? = some x → 0 ≤ cmpS x.1 key
  met : is = true ↔ ∃ x, l[i]? = some x ∧ x.1 = key

end Go.Proofs.YtpcaadipejnllaaGreatDoor
