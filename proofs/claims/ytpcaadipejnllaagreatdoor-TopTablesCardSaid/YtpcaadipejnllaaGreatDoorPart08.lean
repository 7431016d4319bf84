/- Two slices of pairs joined. -/
import Derived.Test.YtpcaadipejnllaaGreatDoorPart06
import Derived.Lib.AppendZeros
import Derived.Test.YtpcaadipejnllaaGreatDoorPart07
import Derived.Deep.MidRow

set_option linter.unusedVariables false
set_option linter.unusedSimpArgs false
namespace Go.Proofs.YtpcaadipejnllaaGreatDoor
open Go.RowKit

set_option maxRecDepth 100000 in
set_option maxHeartbeats 1000000 in
theorem grow_w (n : Nat) (w : World) (h0 : 0 < n) (hn : n ≤ 10000) :
    Calls Tryz.prog 181 #[.slice none 0 0, .int .i64 n] w fun e w' => ∃ c, e = .returned (.slice (some ⟨w.heap.size, 0, none⟩) 0 c) ∧ w'.ownsRow w.heap.size 93 2 (.slice (some ⟨w.heap.size, 0, none⟩) 0 c) 0 [] ∧ n ≤ c ∧ c ≤ maxLen ∧ Chg [] w w' := by
  obtain ⟨i0, hi0, hz0, hz1, hz2⟩ := info_parts info93
  obtain ⟨G, hG⟩ : ∃ G, G = grownCap w n 0 93 := ⟨_, rfl⟩
  obtain ⟨ROW, hROW⟩ : ∃ ROW : Array Value, ROW = Builtin.zeroCells (Value.agg #[.string ⟨#[]⟩, .string ⟨#[]⟩]).cells n ++ Builtin.zeroCells (Value.agg #[.string ⟨#[]⟩, .string ⟨#[]⟩]).cells (G - n) := ⟨_, rfl⟩
  have hGn : n ≤ G := by rw [hG]; exact grownCap_ge w _ _ _
  have hGm : G ≤ maxLen := by rw [hG]; exact grownCap_le_maxLen w n 0 93 (by unfold maxLen; omega)
  have hrz : ∀ ty, (Builtin.append_ #[94, 3] ty #[.slice none 0 0, .int .i64 (n : Int)]).run Tryz.prog w = .ok (.slice (some ⟨w.heap.size, 0, none⟩) n G) (w.drew.alloc (.cells ROW 93)) := fun ty => by
    have h := Lib.run_append_nil_zeros w 94 3 ty 93 i0 _ .i64 .i64 Tryz.underlying94 Tryz.underlying3 hi0 hz0 n h0 (by omega) (by omega) (by rw [hz2]; omega)
    rw [← hG, ← hROW] at h
    exact h
  have hRs : ROW.size = G * 2 := by
    rw [hROW, Array.size_append, zc93, zc93]
    omega
  have hGi : ¬ (G = 0) := by omega
  have hG63 : G ≤ 9223372036854775807 := by unfold maxLen at hGm; omega
  have hm0 : n ≤ 9223372036854775807 := by omega
  clear hG hROW
  go_enter Tryz.func181, Tryz.ntmps181
  go_wp2_with (at_builtin; refine Lib.wpList_append_run _ rfl _ _ _ _ rfl _ _ rfl rfl _ _ (hrz _) ?_)
  go_ret
  exact ⟨G, rfl, ⟨rfl, .inr ⟨w.heap.size, G, ROW, rfl, Nat.le_refl _, Blk.drew (Blk.new w 93 ROW), Nat.zero_le _, hGm, hRs, by simp⟩⟩, hGn, hGm, ((Chg.refl [] w).alloc _).drew⟩

theorem grow_v (n : Nat) (z : Int) (w : World) (hz : z = (n : Int)) (h0 : 0 < n) (hn : n ≤ 10000) :
    Calls Tryz.prog 181 #[.slice none 0 0, .int .i64 z] w fun e w' => ∃ c, e = .returned (.slice (some ⟨w.heap.size, 0, none⟩) 0 c) ∧ w'.ownsRow w.heap.size 93 2 (.slice (some ⟨w.heap.size, 0, none⟩) 0 c) 0 [] ∧ n ≤ c ∧ c ≤ maxLen ∧ Chg [] w w' := hz ▸ grow_w n w h0 hn

/-- The first of two lists. -/
def preL (l1 l2 : List Pr) (k : Nat) : List Pr := if k = 0 then [] else if k = 1 then l1 else l1 ++ l2
def preN (l1 l2 : List Pr) (k : Nat) : Nat := (preL l1 l2 k).length

set_option maxRecDepth 100000 in
set_option maxHeartbeats 1000000 in
theorem concat_w (l1 l2 : List Pr) (v1 v2 : Value) (vb : Nat) (w : World) (hX : Blk w vb 94 #[v1, v2]) (hS1 : Sl w 2 v1 l1.length (prs l1)) (hS2 : Sl w 2 v2 l2.length (prs l2)) (h1 : 0 < l1.length) (h2 : 0 < l2.length) (hl1 : l1.length ≤ 1000) (hl2 : l2.length ≤ 1000)
    (hb1 : ∀ k, v1.ownBlock = some k → k < w.heap.size) (hb2 : ∀ k, v2.ownBlock = some k → k < w.heap.size) :
    Calls Tryz.prog 152 #[.slice (some ⟨vb, 0, none⟩) 2 2] w fun e w' => ∃ v', e = .returned v' ∧ w'.ownsRow w.heap.size 93 2 v' (l1.length + l2.length) (prs (l1 ++ l2)) ∧ Chg [] w w' := by
  obtain ⟨A1, c1, rfl, hc1, hm1⟩ := hS1.form
  obtain ⟨A2, c2, rfl, hc2, hm2⟩ := hS2.form
  obtain ⟨s1, o1, rfl, hs1, hx1⟩ := hS1.at_ (by omega)
  obtain ⟨s2, o2, rfl, hs2, hx2⟩ := hS2.at_ (by omega)
  have x0 := hX.cell 0
  have x1 := hX.cell 1
  go_enter Tryz.func152, Tryz.ntmps152
  go_wp2
  go_loop [3, 11] (fun n i => ∃ k : Nat, k ≤ 2 ∧ i = .int .i64 k ∧ n = .int .i64 (preN l1 l2 k : Nat)) (fun _ i => 2 - (intOf i).toNat)
  case atStart => exact ⟨0, by omega, rfl, rfl⟩
  case round =>
    obtain ⟨k, hk, rfl, rfl⟩ := hrel
    have e0 : preN l1 l2 0 = 0 := rfl
    have e1 : preN l1 l2 1 = l1.length := rfl
    have e2 : preN l1 l2 2 = l1.length + l2.length := by simp [preN, preL]
    rcases (by omega : k = 0 ∨ k = 1 ∨ k = 2) with rfl | rfl | rfl
    · rw [e0]
      clear e0 e2
      go_wp2
      go_round
      case rel => exact ⟨1, by omega, rfl, by rw [e1]; try go_num⟩
      case measure => simp [intOf]
    · rw [e1]
      clear e0 e1
      go_wp2
      go_round
      case rel => exact ⟨2, by omega, rfl, by rw [e2]; try go_num⟩
      case measure => simp [intOf]
    · rw [e2]
      clear e0 e1 e2
      obtain ⟨i0, hi0, hz0, hz1, hz2⟩ := info_parts info93
      go_wp2_with (go_at_call 181; refine (grow_v (l1.length + l2.length) _ _ (by omega) (by omega) (by omega)).mono ?_; rintro e w1 ⟨c, rfl, hown, hcn, hcm, hC1⟩)
      go_loopw [6, 27] (fun v i wr => ∃ k : Nat, k ≤ 2 ∧ i = .int .i64 k ∧ Chg [] w wr ∧ wr.ownsRow w.heap.size 93 2 v (preN l1 l2 k) (prs (preL l1 l2 k))) (fun _ i _ => 2 - (intOf i).toNat)
      case atStart => exact ⟨0, by omega, rfl, hC1, hown⟩
      case round =>
        obtain ⟨k, hk, rfl, hC, hown⟩ := hrel
        have hsz := hC.size
        rcases (by omega : k = 0 ∨ k = 1 ∨ k = 2) with rfl | rfl | rfl
        · have y0 := (hX.ext hC).cell 0
          have y1 := (hX.ext hC).cell 1
          have hq : preN l1 l2 0 ≤ 2000 := by simp [preN, preL]; try omega
          go_wp2_with (at_builtin; refine wpList_append_own _ rfl _ _ 94 rfl w.heap.size 93 i0 _ 2 32 Tryz.underlying94 hi0 hz0 hz1 hz2 rfl (by decide) _ _ _ rfl hown ⟨s1, o1, none⟩ l1.length c1 (prs l1) rfl (prs_len _) ?c1 (prs_one' _) (by unfold maxLen; omega) (by omega) hsz ?c2)
          case c1 =>
            intro j u hj
            have := (List.getElem?_eq_some_iff.1 hj).1
            rw [prs_len] at this
            rw [add_mk, hC.cell hs1 (by simp), hx1 j this]
            exact hj
          case c2 =>
            intro v' w3 hown3 hg3 _
            have hC3 := hC.app hown (Nat.le_refl _) hg3
            go_wp2
            go_roundw
            case rel => exact ⟨1, by omega, rfl, hC3, by simpa [preN, preL, prs_app, show prs [] = [] from rfl] using hown3⟩
            case measure => simp [intOf]
        · have y0 := (hX.ext hC).cell 0
          have y1 := (hX.ext hC).cell 1
          have hq : preN l1 l2 1 ≤ 2000 := by simp [preN, preL]; try omega
          go_wp2_with (at_builtin; refine wpList_append_own _ rfl _ _ 94 rfl w.heap.size 93 i0 _ 2 32 Tryz.underlying94 hi0 hz0 hz1 hz2 rfl (by decide) _ _ _ rfl hown ⟨s2, o2, none⟩ l2.length c2 (prs l2) rfl (prs_len _) ?c1 (prs_one' _) (by unfold maxLen; omega) (by omega) hsz ?c2)
          case c1 =>
            intro j u hj
            have := (List.getElem?_eq_some_iff.1 hj).1
            rw [prs_len] at this
            rw [add_mk, hC.cell hs2 (by simp), hx2 j this]
            exact hj
          case c2 =>
            intro v' w3 hown3 hg3 _
            have hC3 := hC.app hown (Nat.le_refl _) hg3
            go_wp2
            go_roundw
            case rel => exact ⟨2, by omega, rfl, hC3, by simpa [preN, preL, prs_app, show prs [] = [] from rfl] using hown3⟩
            case measure => simp [intOf]
        · go_wp2
          go_ret
          exact ⟨_, rfl, by simpa [preN, preL] using hown, hC⟩

end Go.Proofs.YtpcaadipejnllaaGreatDoor

/- A page that is settled: written, divided. -/
set_option linter.unusedVariables false
set_option linter.unusedSimpArgs false
namespace Go.Proofs.YtpcaadipejnllaaGreatDoor
open Go.RowKit

theorem partA_one {n : Nat} {g : PG} {v : Value} (h : v.oneCell' = true) : (partA n g v).all (·.oneCell') = true := by
  refine all_one_of fun i hi => ?_
  match i, hi with
  | 0, _ => exact ⟨_, rfl, rfl⟩
  | 1, _ => exact ⟨_, rfl, rfl⟩
  | 2, _ => exact ⟨_, rfl, rfl⟩
  | 3, _ => exact ⟨_, rfl, rfl⟩
  | 4, _ => exact ⟨_, rfl, rfl⟩
  | 5, _ => exact ⟨v, rfl, h⟩

theorem insert_v (base : Nat) (l : List Pr) (x : Pr) (v : Value) (i : Nat) (z : Int) (w : World) (hz : z = (i : Int)) (hown : w.ownsRow base 93 2 v l.length (prs l)) (hb : base ≤ w.heap.size) (hi : i ≤ l.length) (hlen : l.length ≤ 1000) (vb : Nat) (hX : Blk w vb 93 #[.string x.1, .string x.2]) (hne : ∀ k, v.ownBlock = some k → vb ≠ k) :
    Calls Tryz.prog 84 #[v, .int .i64 z, .slice (some ⟨vb, 0, none⟩) 1 1] w (Inserted base (l.take i ++ x :: l.drop i) v w) := hz ▸ insert_w base l x v i w hown hb hi hlen vb hX hne

/-- A block of pairs is none of a work's. -/
theorem WA.apart {w : World} {wb ba bm bw fr rt : Nat} {pgs : Nat → List Nat} (h : WA w wb ba bm bw fr rt pgs) {base n : Nat} {v : Value} {xs : List Value} (hv : w.ownsRow base 93 2 v n xs) : ∀ k, v.ownBlock = some k → k ≠ wb ∧ k ≠ ba ∧ k ≠ bm ∧ k ≠ bw := fun k hk => by
  obtain ⟨ws, hA, _⟩ := h.ar
  obtain ⟨cap, cur, h1, h2, _⟩ := hA.m.hd
  exact ⟨own_ne hv h.wk (by decide) hk, own_ne hv hA.a (by decide) hk, own_ne hv h1 (by decide) hk, own_ne hv h2 (by decide) hk⟩

set_option maxRecDepth 100000 in
set_option maxHeartbeats 1000000 in
theorem fix_write (wb ba bm bw fr rt : Nat) (pgs : Nat → List Nat) (n : Nat) (g : PG) (v vu : Value) (at_ : Nat) (w : World) (hW : WA w wb ba bm bw fr rt pgs) (hS : Sl w 2 v g.l.length (prs g.l)) (hvb : ∀ k, v.ownBlock = some k → k < w.heap.size)
    (hg : g.Ok) (hO : OkS g.l) (hlen : g.l.length ≤ 1000) (h36 : 36 ≤ load g.l) (h108 : load g.l ≤ 108) (h0 : 1 ≤ n) (h1 : n ≤ 40) (hu : usedB pgs n = true) (hr : rt ≤ 40) :
    Calls Tryz.prog 116 #[.pointer (some ⟨wb, 0, none⟩), .agg (partA n g v), vu, .int .i64 at_] w fun e w' => ∃ pg, e = .returned vu ∧ IsPage pg g ∧ WA w' wb ba bm bw fr rt (upd pgs n pg) ∧ Chg [wb, bw] w w' := by
  have hS0 := hS
  obtain ⟨A, c, rfl, hc1, hc2⟩ := hS.form
  have hB0 : Blk (w.alloc (.cells (partA n g (.slice A g.l.length c)) 199)) w.heap.size 199 _ := Blk.new w 199 _
  obtain ⟨x0, x1, x2, x3, x4, x5⟩ := partA_cells hB0
  have hC0 : Chg [] w (w.alloc (.cells (partA n g (.slice A g.l.length c)) 199)) := (Chg.refl _ _).alloc _
  have z1 : decide ((108 : Int) < (load g.l : Int)) = false := decide_eq_false (by omega)
  have z2 : decide ((36 : Int) ≤ (load g.l : Int)) = true := decide_eq_true (by omega)
  clear x0 x1 x2 x3 x4
  go_enter Tryz.func116, Tryz.ntmps116
  go_wp2_with (first
    | (go_at_call 148; refine (tcost_w g.l _ _ (hS0.ext hC0) hO hlen).mono ?_; rintro e w1 ⟨rfl, hC1⟩; have hB1 := hB0.ext hC1; have hCC1 := hC0.trans hC1; clear x5)
    | (refine wpList_load_row rfl 199 (.tmp 5) rfl w.heap.size rfl 199 (partA n g (.slice A g.l.length c)) (0, 0) _ hB1 Tryz.underlying199 rfl (by kernel_rfl) ?_)
    | (go_at_call 151; go_loud (refine (twrite_w wb ba bm bw fr rt pgs n g (.slice A g.l.length c) _ ⟨Blk.ext hW.wk hCC1, hW.ar.ext hCC1, hW.na, hW.nm, hW.nw⟩ (hS0.ext hCC1) (fun k hk => Nat.lt_of_lt_of_le (hvb k hk) hCC1.size) hg h0 h1 hu hr).mono ?_; rintro e w2 ⟨pg, rfl, hP, hW2, hC2⟩)))
  go_ret
  exact ⟨pg, rfl, hP, hW2, (hCC1.mono (by simp)).trans hC2⟩

set_option maxRecDepth 100000 in
set_option maxHeartbeats 1000000 in
theorem fix_split (wb ba bm bw fr rt : Nat) (pgs : Nat → List Nat) (n : Nat) (g : PG) (v vu : Value) (at_ base : Nat) (up : List Pr) (w : World) (hW : WA w wb ba bm bw fr rt pgs) (hS : Sl w 2 v g.l.length (prs g.l)) (hvb : ∀ k, v.ownBlock = some k → k < w.heap.size)
    (hO : OkS g.l) (hlen : g.l.length ≤ 1000) (h2 : 2 ≤ g.l.length) (h109 : 109 ≤ load g.l) (hld : load g.l ≤ 10000)
    (hR : ∀ k y, HalfAt g.l k → g.l[k]? = some y → (rightOf g k y).Ok) (hL : ∀ k y, HalfAt g.l k → g.l[k]? = some y → (leftOf g k y fr).Ok) (f0 : 1 ≤ fr) (f1 : fr ≤ 40) (h0 : 1 ≤ n) (h1 : n ≤ 40) (hu : usedB pgs n = true) (hr : rt ≤ 40) (hnf : n ≠ fr) (hvn : ∀ k, v.ownBlock = some k → k ≠ wb ∧ k ≠ bw)
    (hup : w.ownsRow base 93 2 vu up.length (prs up)) (hbase : base ≤ w.heap.size) (hal : at_ < up.length) (hul : up.length ≤ 900) :
    Calls Tryz.prog 116 #[.pointer (some ⟨wb, 0, none⟩), .agg (partA n g v), vu, .int .i64 at_] w fun e w' => ∃ (k : Nat) (y : Pr) (pgR pgL : List Nat) (v' : Value), e = .returned v' ∧ HalfAt g.l k ∧ g.l[k]? = some y ∧ IsPage pgR (rightOf g k y) ∧ IsPage pgL (leftOf g k y fr) ∧
      WA w' wb ba bm bw (wd (pgs fr) 10).toNat rt (upd (upd pgs fr pgR) n pgL) ∧ w'.ownsRow base 93 2 v' (up.length + 1) (prs (up.take (at_ + 1) ++ (y.1, numS fr) :: up.drop (at_ + 1))) ∧ Chg (wb :: bw :: vu.ownBlock.toList) w w' := by
  have hS0 := hS
  obtain ⟨A, c, rfl, hc1, hc2⟩ := hS.form
  have hap := hW.apart hup
  have hB0 : Blk (w.alloc (.cells (partA n g (.slice A g.l.length c)) 199)) w.heap.size 199 _ := Blk.new w 199 _
  obtain ⟨x0, x1, x2, x3, x4, x5⟩ := partA_cells hB0
  have hC0 : Chg [] w (w.alloc (.cells (partA n g (.slice A g.l.length c)) 199)) := (Chg.refl _ _).alloc _
  have z1 : decide ((108 : Int) < (load g.l : Int)) = true := decide_eq_true (by omega)
  have hwl := Blk.lt hW.wk
  clear x0 x1 x2 x3 x4
  go_enter Tryz.func116, Tryz.ntmps116
  go_wp2_with (first
    | (go_at_call 148; refine (tcost_w g.l _ _ (hS0.ext hC0) hO hlen).mono ?_; rintro e w1 ⟨rfl, hC1⟩; have hB1 := hB0.ext hC1; have hCC1 := hC0.trans hC1; clear x5)
    | (refine wpList_load_row rfl 199 (.tmp 5) rfl w.heap.size rfl 199 (partA n g (.slice A g.l.length c)) (0, 0) _ hB1 Tryz.underlying199 rfl (by kernel_rfl) ?_)
    | (go_at_call 149; go_loud (refine (divide_w wb ba bm bw fr rt pgs n g (.slice A g.l.length c) _ ⟨Blk.ext hW.wk hCC1, hW.ar.ext hCC1, hW.na, hW.nm, hW.nw⟩ (hS0.ext hCC1) (fun k hk => Nat.lt_of_lt_of_le (hvb k hk) hCC1.size) hO hlen h2 hR hL f0 f1 h0 h1 hu hr hnf hvn).mono ?_; rintro e w2 ⟨k, y, pgR, pgL, vL, vR, rfl, ⟨oL, oR⟩, hH, hy, hPR, hPL, hW2, hC2⟩))
    | (refine wpList_store_blk rfl 199 (.tmp 10) (.tmp 32) rfl w2.heap.size rfl (partA n (leftOf g k y fr) vL) rfl 199 _ ((Blk.new w2 199 _).alloc _) (by kernel_rfl) rfl (partA_one oL) ?_; intro w3 hC3 hs3 hB3; have hR3 := (Blk.newEq (w := w2.alloc _) (t := 199) (g := w2.heap.size + 1) (by simp)).chg hC3 (by simp))
    | (refine wpList_store_blk rfl 199 (.tmp 11) (.tmp 33) rfl (w2.heap.size + 1) rfl (partA fr (rightOf g k y) vR) rfl 199 _ hR3 (by kernel_rfl) rfl (partA_one oR) ?_; intro w4 hC4 hs4 hB4; have hwl2 := Blk.lt hW2.wk; have hlt2 := hW2.ar.lt; have hCC4 : Chg [w2.heap.size, w2.heap.size + 1] w2 w4 := ((((Chg.refl _ w2).alloc _).alloc _).trans (hC3.mono (by simp))).trans (hC4.mono (by simp)); have hW4 := hW2.chg hCC4 (fun i hi => by simp at hi; omega); have cw := Blk.cell hW4.wk 1))
  obtain ⟨rb, hrb⟩ : ∃ rb, rb = w2.heap.size + 1 := ⟨_, rfl⟩
  rw [← hrb] at hB4 ⊢
  have hs2 := hC2.size
  have hs12 := hCC1.size
  have hs42 := hCC4.size
  have hown4 : w4.ownsRow base 93 2 vu up.length (prs up) := by
    refine own_chg (own_chg (own_ext hup hCC1) hC2 (fun q hq => ?_)) hCC4 (fun q hq => ?_)
    · have := hap q hq; simp; omega
    · have := (hup.lt q hq).2; simp; omega
  have hrw : rb ≠ wb := by omega
  have hru : ∀ q, vu.ownBlock = some q → rb ≠ q := fun q hq => by have := (hup.lt q hq).2; omega
  have hnb : rb ∉ wb :: vu.ownBlock.toList := by
    simp only [List.mem_cons, Option.mem_toList, not_or]
    exact ⟨hrw, fun h => hru rb (by simpa using h) rfl⟩
  obtain ⟨r0, r1, r2, r3, r4, r5⟩ := partA_cells hB4
  have hlow : (rightOf g k y).low = y.1 := rfl
  rw [hlow] at r2
  have hr4 := hB4.lt
  clear r1 r3 r4 r5 hlow hB4
  have hs4b : base ≤ w4.heap.size := by omega
  have hs4v : ∀ q, vu.ownBlock = some q → q < w4.heap.size := fun q hq => by have := (hup.lt q hq).2; omega
  have hown5 : ∀ w5, Chg [wb] w4.drew w5 → w5.ownsRow base 93 2 vu up.length (prs up) := fun w5 hC5 => own_chg (own_ext hown4 ((Chg.refl [] w4).drew)) hC5 (fun q hq => by have := (hap q hq).1; simpa using this)
  have hW40 : WA w4.drew wb ba bm bw (wd (pgs fr) 10).toNat rt (upd (upd pgs fr pgR) n pgL) := hW4.chg ((Chg.refl [] w4).drew) (by simp)
  have hS4 : ∀ W, Chg (wb :: vu.ownBlock.toList) w4 W → W.cell? ⟨rb, 2, none⟩ = some (.string y.1) ∧ W.cell? ⟨rb, 0, none⟩ = some (.int .i64 fr) ∧ Chg (wb :: vu.ownBlock.toList) w4 W := fun W hW => ⟨by rw [hW.cell hr4 hnb]; exact r2, by rw [hW.cell hr4 hnb]; exact r0, hW⟩
  have hw1 : IntKind.i64.wrap ((at_ : Int) + 1) = (at_ : Int) + 1 := by rw [IntKind.wrap_i64]; omega
  have k1 : ∀ W W', Chg (wb :: vu.ownBlock.toList) w4 W → Chg [wb] W W' → Chg (wb :: vu.ownBlock.toList) w4 W' := fun W W' h1 h2 => h1.trans (h2.mono (by simp))
  have k2 : ∀ W W', Chg (wb :: vu.ownBlock.toList) w4 W → Chg vu.ownBlock.toList W W' → Chg (wb :: vu.ownBlock.toList) w4 W' := fun W W' h1 h2 => h1.trans (h2.mono (by intro i hi; simp at hi ⊢; exact .inr hi))
  have hI0 : Chg (wb :: vu.ownBlock.toList) w4 w4.drew := (Chg.refl _ _).drew
  clear r0 r2 hrb hs2 hs12 hs42
  go_region_held3 (fun W => W.cell? ⟨rb, 2, none⟩ = some (.string y.1) ∧ W.cell? ⟨rb, 0, none⟩ = some (.int .i64 fr) ∧ Chg (wb :: vu.ownBlock.toList) w4 W) (first | exact hS4 _ hI0 | exact hS4 _ (k1 _ _ hI0 (by assumption)) | exact hS4 _ ((k1 _ _ hI0 (by assumption)).alloc _) | exact hS4 _ (k2 _ _ ((k1 _ _ hI0 (by assumption)).alloc _) (by assumption))) (first | (go_at_call 150; refine (tvalue_w wb ba bm bw _ rt _ fr _ hW40 f0 (by omega)).mono ?_; rintro e w5 ⟨rfl, hW5, hC5⟩) | (go_at_call 84; go_loud (refine (insert_v base up (y.1, numS fr) vu (at_ + 1) _ _ (by omega) ((hown5 w5 hC5).alloc _) (by have := hC5.size; simp at this ⊢; omega) (by omega) (by omega) w5.heap.size (Blk.new w5 93 _) (fun q hq => by have := hs4v q hq; have := hC5.size; simp at this; omega)).mono ?_); rintro e w6 ⟨v', rfl, hown6, hC6⟩))
  go_wp2
  go_ret
  have hC5' : Chg (wb :: vu.ownBlock.toList) w4 w6 := k2 _ _ ((k1 _ _ hI0 hC5).alloc _) hC6
  have hl6 : (up.take (at_ + 1) ++ (y.1, numS fr) :: up.drop (at_ + 1)).length = up.length + 1 := by simp; omega
  refine ⟨k, y, pgR, pgL, v', rfl, hH, hy, hPR, hPL, ?_, ?_, ?_⟩
  · refine (hW5.chg ((Chg.refl [] _).alloc _) (by simp)).chg hC6 (fun i hi => ?_)
    exact hap i (by simpa using hi)
  · rw [hl6] at hown6
    exact hown6
  · refine (((hCC1.mono (by simp)).trans (hC2.mono (by simp))).on hCC4 (fun i hi => .inr ?_)).trans (hC5'.mono (fun i hi => ?_))
    · have h1 := hCC1.size
      have h2 := hC2.size
      simp at hi
      omega
    · simp at hi ⊢
      exact hi.imp id .inr

end Go.Proofs.YtpcaadipejnllaaGreatDoor

/- One cell loaded, one cell stored, in a region that draws its order. -/
set_option linter.unusedVariables false
set_option linter.unusedSimpArgs false
namespace Go.Proofs.YtpcaadipejnllaaGreatDoor
open Go.RowKit

theorem cells_one {z : Value} (h : z.oneCell' = true) : z.cells = #[z] := by
  cases z <;> first | rfl | cases h
theorem run_store_one (w : World) (ty : TypeId) (g k : Nat) (z : Value) (t : TypeId) (cs : Array Value) (hB : Blk w g t cs) (hk : k < cs.size) (hi : (Tryz.prog.info? ty).map (·.size) = some 1) (h1 : z.oneCell' = true) :
    (Instr.storeAt ty (.pointer (some ⟨g, k, none⟩)) z).run Tryz.prog w = .ok () (w.setCell ⟨g, k, none⟩ z) := by
  have hc : w.cell? ⟨g, k, none⟩ = some cs[k] := by rw [hB.cell, Array.getElem?_eq_getElem hk]
  have hf := hB.frozen k
  have hs := run_store Tryz.prog w ⟨g, k, none⟩ z .plain h1
  rw [hc] at hs
  simp only [hf, Bool.false_eq_true, if_false] at hs
  cases hq : Tryz.prog.info? ty with
  | none => simp [hq] at hi
  | some i =>
    have hz1 : i.size = 1 := by simpa [hq] using hi
    simp [Instr.storeAt, Instr.sureAddr, storeVar, sizeOf, typeInfo, hq, hz1, storeCells, add_zero, cells_one h1, hs, Sem.run_bind]
theorem op_store_one {o : Oper} {a : Act} {w : World} {K : Act → World → Prop} {Q : Exit → Act → World → Prop} (ty : TypeId) (x y : Operand) (ho : o.op = .store ty x y)
    (g k : Nat) (hx : a.eval x = .pointer (some ⟨g, k, none⟩)) (z : Value) (hy : a.eval y = z) (t : TypeId) (cs : Array Value) (hg : Blk w g t cs) (hk : k < cs.size)
    (hi : (Tryz.prog.info? ty).map (·.size) = some 1) (h1 : z.oneCell' = true)
    (h : ∀ w', Chg [g] w w' → w'.heap.size = w.heap.size → Blk w' g t (cs.setIfInBounds k z) → K (a.put o.dst undef) w') : Oper.wp Tryz.prog o a w K Q := by
  have hr := run_store_one w ty g k z t cs hg hk hi h1
  unfold Oper.wp execOp
  simp only [ho, hx, hy, Sem.run_bind, Sem.run_pure, Result.andThen_ok, hr]
  exact h _ ((Chg.refl _ _).set _ (by simp) _) (by simp [World.setCell]) (hg.set_ k z)
theorem wpList_store_one {ops : Array Oper} {rest : List Oper} {o : Oper} {a : Act} {w : World} {Q : Exit → Act → World → Prop} (hgd : o.guard = none) (ty : TypeId) (x y : Operand) (ho : o.op = .store ty x y)
    (g k : Nat) (hx : a.eval x = .pointer (some ⟨g, k, none⟩)) (z : Value) (hy : a.eval y = z) (t : TypeId) (cs : Array Value) (hg : Blk w g t cs) (hk : k < cs.size)
    (hi : (Tryz.prog.info? ty).map (·.size) = some 1) (h1 : z.oneCell' = true)
    (h : ∀ w', Chg [g] w w' → w'.heap.size = w.heap.size → Blk w' g t (cs.setIfInBounds k z) → wpList Tryz.prog ops Q rest (a.put o.dst undef) w') : wpList Tryz.prog ops Q (o :: rest) a w :=
  wpList_plain hgd fun _ hK => op_store_one ty x y ho g k hx z hy t cs hg hk hi h1 (fun w' a b c => hK _ _ (h w' a b c))

theorem yieldsIf_load_cell {ops : Array Oper} {S : World → Prop} {op : Oper} {a : Act} (hw : Region.wanted op (yielded ops a.tmps) = true) (ty : TypeId) (x : Operand) (ho : op.op = .load ty x)
    (b k : Nat) (hx : a.eval x = .pointer (some ⟨b, k, none⟩)) (z : Value) (hS : ∀ w, S w → w.cell? ⟨b, k, none⟩ = some z) (hagg : ∀ w, (isAgg ty).run Tryz.prog w = .ok false w) : YieldsIf Tryz.prog ops S op z a :=
  .inl ⟨hw, fun w hw' => by
    have hc := hS w hw'
    unfold execOp
    simp [ho, hx, Instr.loadAt, Instr.sureAddr, loadVar, hagg, Sem.run_bind, run_load, hc, Result.andThen]⟩

end Go.Proofs.YtpcaadipejnllaaGreatDoor
