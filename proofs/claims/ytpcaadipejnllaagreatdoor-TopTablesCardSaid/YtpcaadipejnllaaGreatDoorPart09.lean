/- A poor page and its neighbour. -/
import Derived.Test.YtpcaadipejnllaaGreatDoorPart08
import Derived.Deep.DeepCutAuto
import Derived.Deep.MidRow

set_option linter.unusedVariables false
set_option linter.unusedSimpArgs false
set_option linter.unnecessarySimpa false
namespace Go.Proofs.YtpcaadipejnllaaGreatDoor
open Go.RowKit

theorem num_or64 (n a b : Nat) (h : n ≤ 511) (ha : a = n / 256 % 256) (hb : b = n % 256 % 256) : bits .or .i64 (wrap64 (wrap64 (a : Int) * 256)) (wrap64 (b : Int)) = (n : Int) := by
  have e1 : wrap64 (a : Int) = (a : Int) := by unfold wrap64; omega
  have e2 : wrap64 (b : Int) = (b : Int) := by unfold wrap64; omega
  have e3 : wrap64 ((a : Int) * 256) = (a : Int) * 256 := by unfold wrap64; omega
  rw [e1, e2, e3]
  exact num_or2 n a b h ha hb

theorem own_one {w : World} {base : Nat} {e : TypeId} {size n : Nat} {v : Value} {xs : List Value} (h : w.ownsRow base e size v n xs) : v.oneCell' = true := by
  rcases h.2 with ⟨rfl, _⟩ | ⟨g, cap, cur, rfl, _⟩ <;> rfl

theorem own_blk {w : World} {base : Nat} {e : TypeId} {size n su o cu : Nat} {xs : List Value} (h : w.ownsRow base e size (.slice (some ⟨su, o, none⟩) n cu) n xs) : ∃ cur, o = 0 ∧ Blk w su e cur ∧ base ≤ su ∧ n ≤ cu ∧ cu ≤ maxLen ∧ cur.size = cu * size ∧ cur.toList.take (n * size) = xs := by
  rcases h.2 with ⟨h, _⟩ | ⟨g, cap, cur, e, q1, q2, q3, q4, q5, q6⟩
  · cases h
  · injection e with e1 e2 e3
    injection e1 with e1
    injection e1 with e1 e4
    subst e1 e3
    exact ⟨cur, e4, q2, q1, q3, q4, q5, q6⟩
theorem prs_set_key (l : List Pr) (i : Nat) (x : Pr) (k : ByteArray) (h : l[i]? = some x) : (prs l).set (i * 2) (.string k) = prs (l.set i (k, x.2)) := by
  induction l generalizing i with
  | nil => simp at h
  | cons y l ih =>
    have e : ∀ (z : Pr) (m : List Pr), prs (z :: m) = .string z.1 :: .string z.2 :: prs m := fun z m => by simp [prs]
    cases i with
    | zero =>
      simp at h
      subst h
      rw [e]
      exact (e (k, y.2) l).symm
    | succ i =>
      rw [e, List.set_cons_succ, e, show (i + 1) * 2 = i * 2 + 1 + 1 by omega, List.set_cons_succ, List.set_cons_succ, ih i (by simpa using h)]

/-- What lies in a cell of a block. -/
def cvk (W : World) (b k : Nat) : Value := (W.cell? ⟨b, k, none⟩).getD undef
theorem cvk_of {W : World} {b k : Nat} {t : TypeId} {cs : Array Value} (h : Blk W b t cs) (hk : k < cs.size) : W.cell? ⟨b, k, none⟩ = some (cvk W b k) := by
  unfold cvk
  rw [h.cell, Array.getElem?_eq_getElem hk]
  rfl

/-- Which of two pages is on the left. -/
def Sides (j at_ n q : Nat) (g h : PG) (pl pr : Nat) (gl gr : PG) : Prop := (j = at_ + 1 ∧ pl = n ∧ gl = g ∧ pr = q ∧ gr = h) ∨ (j + 1 = at_ ∧ pl = q ∧ gl = h ∧ pr = n ∧ gr = g)

/-- The pairs of a page as they lie. -/
structure SideOf (w : World) (wb bw B : Nat) (v : Value) (g : PG) : Prop where
  sl : Sl w 2 v g.l.length (prs g.l)
  lt : ∀ k, v.ownBlock = some k → k < w.heap.size
  ne : ∀ k, v.ownBlock = some k → k ≠ wb ∧ k ≠ bw
  one : v.oneCell' = true

/-- What becomes of a poor page and its neighbour. -/
def Settled (w : World) (wb ba bm bw fr rt : Nat) (pgs : Nat → List Nat) (base : Nat) (vu : Value) (up : List Pr) (sec pl pr : Nat) (gl gr : PG) (e : Ending) (w' : World) : Prop :=
  (load (gl.l ++ gr.l) ≤ 108 ∧ ∃ (pg : List Nat) (v' : Value), e = .returned v' ∧ IsPage pg { gl with high := gr.high, next := gr.next, l := gl.l ++ gr.l } ∧ WA w' wb ba bm bw pr rt (upd (upd pgs pl pg) pr (freePg fr)) ∧ w'.ownsRow base 93 2 v' (up.length - 1) (prs (up.take sec ++ up.drop (sec + 1))) ∧ Chg (wb :: bw :: vu.ownBlock.toList) w w') ∨
  (108 < load (gl.l ++ gr.l) ∧ ∃ (k : Nat) (y : Pr) (pgL pgR : List Nat) (x : Pr), e = .returned vu ∧ HalfAt (gl.l ++ gr.l) k ∧ (gl.l ++ gr.l)[k]? = some y ∧ IsPage pgL { gl with high := y.1, l := (gl.l ++ gr.l).take k } ∧ IsPage pgR { gr with low := y.1, l := (gl.l ++ gr.l).drop k } ∧ WA w' wb ba bm bw fr rt (upd (upd pgs pl pgL) pr pgR) ∧
    up[sec]? = some x ∧ w'.ownsRow base 93 2 vu up.length (prs (up.set sec (y.1, x.2))) ∧ Chg (wb :: bw :: vu.ownBlock.toList) w w')

theorem delete_v (base : Nat) (l : List Pr) (v : Value) (i : Nat) (z z2 : Int) (w : World) (hz : z = (i : Int)) (hz2 : z2 = (i : Int) + 1) (hown : w.ownsRow base 93 2 v l.length (prs l)) (hi : i < l.length) (hlen : l.length ≤ 1000) :
    Calls Tryz.prog 121 #[v, .int .i64 z, .int .i64 z2] w (Inserted base (l.take i ++ l.drop (i + 1)) v w) := by
  subst hz hz2
  exact delete_w base l v i w hown hi hlen

set_option maxRecDepth 100000 in
set_option maxHeartbeats 3000000 in
theorem fix_poor (wb ba bm bw fr rt : Nat) (pgs : Nat → List Nat) (n : Nat) (g : PG) (v vu : Value) (at_ j base q : Nat) (kq : ByteArray) (h : PG) (up : List Pr) (w : World) (hW : WA w wb ba bm bw fr rt pgs) (hS : Sl w 2 v g.l.length (prs g.l)) (hvb : ∀ k, v.ownBlock = some k → k < w.heap.size)
    (hO : OkS g.l) (hlen : g.l.length ≤ 1000) (h36 : load g.l < 36) (h0 : 1 ≤ n) (h1 : n ≤ 40) (hu : usedB pgs n = true) (hr : rt ≤ 40) (hf : fr ≤ 40) (hvn : ∀ k, v.ownBlock = some k → k ≠ wb ∧ k ≠ bw)
    (hup : w.ownsRow base 93 2 vu up.length (prs up)) (hbase : base ≤ w.heap.size) (hal : at_ < up.length) (hul : up.length ≤ 900) (hj : (at_ + 1 < up.length ∧ j = at_ + 1) ∨ (at_ + 1 = up.length ∧ j + 1 = at_))
    (hq : up[j]? = some (kq, numS q)) (q0 : 1 ≤ q) (q1 : q ≤ 40) (hqP : IsPage (pgs q) h) (hqu : usedB pgs q = true) (hnq : n ≠ q) (hrn : rt ≠ n) (hrq : rt ≠ q) (hg1 : 0 < g.l.length) (hh1 : 0 < h.l.length) (hh2 : h.l.length ≤ 200) (hhO : OkS h.l)
    (pl pr : Nat) (gl gr : PG) (hsel : Sides j at_ n q g h pl pr gl gr) (sec : Nat) (hsec : sec = if at_ < j then j else at_)
    (hM : load (gl.l ++ gr.l) ≤ 108 → PG.Ok { gl with high := gr.high, next := gr.next, l := gl.l ++ gr.l })
    (hE : 108 < load (gl.l ++ gr.l) → ∀ k y, HalfAt (gl.l ++ gr.l) k → (gl.l ++ gr.l)[k]? = some y → PG.Ok { gl with high := y.1, l := (gl.l ++ gr.l).take k } ∧ PG.Ok { gr with low := y.1, l := (gl.l ++ gr.l).drop k }) :
    Calls Tryz.prog 116 #[.pointer (some ⟨wb, 0, none⟩), .agg (partA n g v), vu, .int .i64 at_] w (Settled w wb ba bm bw fr rt pgs base vu up sec pl pr gl gr) := by
  have hS0 := hS
  obtain ⟨A, c, rfl, hc1, hc2⟩ := hS.form
  have hap := hW.apart hup
  obtain ⟨su, ou, cu, rfl, hsu, hxu⟩ := own_at hup (by omega)
  obtain ⟨cur0, rfl, _, _, _, _, _, _⟩ := own_blk hup
  have hB0 : Blk (w.alloc (.cells (partA n g (.slice A g.l.length c)) 199)) w.heap.size 199 _ := Blk.new w 199 _
  obtain ⟨x0, x1, x2, x3, x4, x5⟩ := partA_cells hB0
  have hC0 : Chg [] w (w.alloc (.cells (partA n g (.slice A g.l.length c)) 199)) := (Chg.refl _ _).alloc _
  have z1 : decide ((108 : Int) < (load g.l : Int)) = false := decide_eq_false (by omega)
  have z2 : decide ((36 : Int) ≤ (load g.l : Int)) = false := decide_eq_false (by omega)
  have hjl : j < up.length := by omega
  obtain ⟨g1, g2⟩ := prs_get up j _ hq
  have d2 := hxu (j * 2 + 1) (by omega)
  rw [g2, Nat.zero_add] at d2
  have hwl := Blk.lt hW.wk
  have hs8 := numS_size q
  have b6 : ((numS q)[6]'(by omega)).toNat = q / 256 % 256 := by rw [byteAt_in (numS q) (by omega), numS_byte q 6 (by omega)]; rfl
  have b7 : ((numS q)[7]'(by omega)).toNat = q % 256 % 256 := by rw [byteAt_in (numS q) (by omega), numS_byte q 7 (by omega)]; rfl
  have B6 := Lib.hid b6
  have B7 := Lib.hid b7
  have Hxu := Lib.hid hxu
  have Hsec := Lib.hid hsec
  clear x0 x1 x2 x3 x4 b6 b7 hxu hsec
  go_enter Tryz.func116, Tryz.ntmps116
  go_upto_region 10 with (first
    | (go_at_call 148; refine (tcost_w g.l _ _ (hS0.ext hC0) hO hlen).mono ?_; rintro e w1 ⟨rfl, hC1⟩; have hB1 := hB0.ext hC1; have hCC1 := hC0.trans hC1; have d3 : w1.cell? ⟨su, j * 2 + 1, none⟩ = some (.string (numS q)) := (by rw [hCC1.cell hsu (by simp)]; exact d2); clear x5))
  go_upto_if 64 with fail
  go_cut [12] (fun s12 wx => s12 = .int .i64 j ∧ wx = w1)
  case first =>
    rcases hj with ⟨hj1, rfl⟩ | ⟨hj1, hj2⟩
    · have z3 : ((at_ : Int) + 1 == (up.length : Int)) = false := by rw [beq_eq_false_iff_ne]; omega
      go_wp2_with fail
      go_meet
      exact ⟨rfl, rfl⟩
    · have z3 : ((at_ : Int) + 1 == (up.length : Int)) = true := by rw [beq_iff_eq]; omega
      go_wp2_with fail
      go_meet
      exact ⟨by first | (congr 1; omega) | go_num | (simp; omega), rfl⟩
  case rest =>
  obtain ⟨rfl, hwc⟩ := hcut
  subst hwc
  go_wp2_with fail
  go_quiet (fail)
  have hA1 := hW.ar.ext hCC1
  have hW1 : Blk wc wb 193 #[.pointer (some ⟨ba, 0, none⟩), .int .i64 0] := Blk.ext hW.wk hCC1
  have hnum : bits BinOp.or IntKind.i64 (wrap64 (wrap64 (((numS q)[6]'(by omega)).toNat : Int) * 256)) (wrap64 (((numS q)[7]'(by omega)).toNat : Int)) = (q : Int) := num_or64 q _ _ (by omega) B6.out B7.out
  rw [hnum]
  clear hnum B6 B7
  have hW2 : WA (wc.drewN nq) wb ba bm bw fr rt pgs := ⟨hW1, hA1.ext ((Chg.refl [] wc).drewN nq), hW.na, hW.nm, hW.nw⟩
  have hC12 : Chg [] w (wc.drewN nq) := hCC1.drewN nq
  have hB2 : Blk (wc.drewN nq) w.heap.size 199 (partA n g (.slice A g.l.length c)) := hB1.drewN nq
  obtain ⟨W1, hW1e⟩ : ∃ W1, W1 = wc.drewN nq := ⟨_, rfl⟩
  rw [← hW1e] at hW2 hC12 hB2 ⊢
  clear hW1e hA1 hW1 hB1 d3 hCC1 hC1
  have cw0 := Blk.cell hW2.wk 0
  have hlP := hqP.head.len
  have hszP : (nums (pgs q)).size = 128 := by rw [nums_size]; exact hlP
  have honeP : (nums (pgs q)).all (·.oneCell') = true := nums_one _
  go_wp2_with (first
    | (go_at_call 129; refine (read_s ba bm bw fr rt pgs q _ hW2.ar (by omega) (by omega)).mono ?_; rw [Int.toNat_natCast]; rintro e w3 ⟨rfl, hC3⟩; have hW3 : WA w3 wb ba bm bw fr rt pgs := ⟨Blk.ext hW2.wk hC3, hW2.ar.ext hC3, hW.na, hW.nm, hW.nw⟩; have hB3 := hB2.ext hC3)
    | (refine wpList_store_blk rfl 72 (.tmp 15) (.tmp 87) rfl w3.heap.size rfl (nums (pgs q)) rfl 72 _ (Blk.new w3 72 _) (hszP ▸ (by kernel_rfl)) (by rw [hszP]; rfl) honeP ?_; intro w4 hC4 hs4 hB4; have hwl3 := Blk.lt hW3.wk; have hlt3 := hW3.ar.lt; have hpl3 := hB3.lt; have hs4' : w4.heap.size = w3.heap.size + 1 := (by rw [hs4]; simp); have hCC4 : Chg [w3.heap.size] w3 w4 := ((Chg.refl [w3.heap.size] w3).alloc _).trans hC4; have hW4 := hW3.chg hCC4 (fun i hi => by simp at hi; omega); have hB5 := hB3.chg hCC4 (by simp; omega); have cw1 := Blk.cell hW4.wk 1; have cf1 := Blk.frozen hW4.wk 1))
  have hi199 : (Tryz.prog.info? 199).map (·.size) = some (partA n g (.slice A g.l.length c)).toList.length := by kernel_rfl
  have hi72 : (Tryz.prog.info? 72).map (·.size) = some (nums (pgs q)).toList.length := by rw [Array.length_toList, hszP]; kernel_rfl
  have hu199 := Tryz.underlying199
  have hu72 := Tryz.underlying72
  obtain ⟨PX, hPX⟩ : ∃ PX, PX = partA n g (.slice A g.l.length c) := ⟨_, rfl⟩
  have hB6 : Blk (w4.setCell ⟨wb, 1, none⟩ (.int .i64 0)) w.heap.size 199 PX := hPX ▸ hB5.far (by simp; omega) _
  have hQ6 : Blk (w4.setCell ⟨wb, 1, none⟩ (.int .i64 0)) w3.heap.size 72 (nums (pgs q)) := hB4.far (by simp; omega) _
  have hoX : PX.all (·.oneCell') = true := by rw [hPX]; exact partA_one rfl
  have hsX : PX.size = 6 := by rw [hPX]; rfl
  rw [← hPX] at hi199 ⊢
  obtain ⟨W6, hW6e⟩ : ∃ W6, W6 = w4.setCell ⟨wb, 1, none⟩ (.int .i64 0) := ⟨_, rfl⟩
  rw [← hW6e] at hB6 hQ6 ⊢
  have hW6 : WA W6 wb ba bm bw fr rt pgs := by
    rw [hW6e]
    exact ⟨Blk.setEq hW4.wk rfl, hW4.ar.chg ((Chg.refl [wb] w4).set ⟨wb, 1, none⟩ (by simp) _) (by simpa using hW.na.symm) (by simpa using hW.nm.symm) (by simpa using hW.nw.symm), hW.na, hW.nm, hW.nw⟩
  have hC6 : Chg [wb] w W6 := by
    rw [hW6e]
    exact (((hC12.nil hC3).mono (by simp)).on hCC4 (fun i hi => .inr (by simp at hi; omega))).set ⟨wb, 1, none⟩ (by simp) _
  have HPX := Lib.hid hPX
  clear hW6e hPX hB5 hB4 hW4 cw1 cf1 hCC4 hC4 hs4 hs4' hB3 hW3 cw0 hB2 hW2
  have hS6 : ∀ W, Chg [] W6 W → W.rangeAt w.heap.size 0 PX.toList ∧ W.rangeAt w3.heap.size 0 (nums (pgs q)).toList ∧ Chg [] W6 W := fun W hW =>
    ⟨fun j v hv => by rw [Nat.zero_add, (hB6.ext hW).cell, ← Array.getElem?_toList]; exact hv, fun j v hv => by rw [Nat.zero_add, (hQ6.ext hW).cell, ← Array.getElem?_toList]; exact hv, hW⟩
  have hi6X : (Tryz.prog.info? 199).map (·.size) = some PX.size := by rw [hsX]; kernel_rfl
  try simp only [Act.put, List.setIfInBounds_toArray, List.set_cons_zero, List.set_cons_succ]
  go_cut [17, 18] (fun s17 s18 wx => ∃ L R v2, s17 = .pointer (some ⟨L, 0, none⟩) ∧ s18 = .pointer (some ⟨R, 0, none⟩) ∧ L ≠ R ∧ W6.heap.size ≤ L ∧ W6.heap.size ≤ R ∧ Blk wx L 199 PX ∧ Blk wx R 199 (partA q h v2) ∧ wx.ownsRow W6.heap.size 93 2 v2 h.l.length (prs h.l) ∧ Chg [] W6 wx)
  case first =>
    refine wp_region_held_drew (S := fun W => W.rangeAt w.heap.size 0 PX.toList ∧ W.rangeAt w3.heap.size 0 (nums (pgs q)).toList ∧ Chg [] W6 W) (by kernel_rfl) (hS6 _ ((Chg.refl _ W6).drew)) (fun hH => ?_)
    refine wpAnyH_take (i := 0) rfl (by kernel_rfl) (by kernel_rfl) (by kernel_rfl) (fun _ _ _ h => h) (yieldsIf_load_mid (by rfl) _ _ rfl _ _ rfl PX.toList _ (fun w' hw' => hw'.1) hu199 rfl hi199) hH ?_
    try simp only [Act.put, List.setIfInBounds_toArray, List.set_cons_zero, List.set_cons_succ]
    refine wpAnyH_take (i := 1) (v := .int .i64 q) rfl (by kernel_rfl) (by kernel_rfl) (by kernel_rfl) (fun _ _ _ h => h) (Or.inl ⟨by rfl, fun w' hw' => by go_simp⟩) hH ?_
    try simp only [Act.put, List.setIfInBounds_toArray, List.set_cons_zero, List.set_cons_succ]
    refine wpAnyH_take (i := 2) rfl (by kernel_rfl) (by kernel_rfl) (by kernel_rfl) (fun _ _ _ h => h) (yieldsIf_load_mid (by rfl) _ _ rfl _ _ rfl (nums (pgs q)).toList _ (fun w' hw' => hw'.2.1) hu72 rfl hi72) hH ?_
    try simp only [Act.put, List.setIfInBounds_toArray, List.set_cons_zero, List.set_cons_succ]
    have hC : Chg [] W6 W6.drew := (Chg.refl _ W6).drew
    refine wpAnyH_ready (rs := [3, 4, 5]) (by kernel_rfl) (by simp) ?_
    refine AllReadyH.cons rfl (fun K hK => ?_) (AllReadyH.cons rfl (fun K hK => ?_) (AllReadyH.cons rfl (fun K hK => ?_) AllReadyH.nil))
    · go_simp
      refine (partof_w q (pgs q) h _ hqP).mono ?_
      rintro e W7 ⟨v2, rfl, hown2, hC7⟩
      have hown := own_base (b' := W6.heap.size) hown2 hC.size
      have hC := hC.trans hC7
      refine hK.out _ _ (hS6 _ hC) (fun hH => ?_)
      clear hK K
      try simp only [List.getElem_toArray, List.getElem_cons_succ, List.getElem_cons_zero, Act.put, List.setIfInBounds_toArray, List.set_cons_zero, List.set_cons_succ]
      refine wpAnyH_ready (rs := [4, 5]) (by kernel_rfl) (by simp) ?_
      refine AllReadyH.cons rfl (fun K hK => ?_) (AllReadyH.cons rfl (fun K hK => ?_) AllReadyH.nil)
      · go_simp
        have hgeL := hC.size
        have hL := Blk.new (W7) 199 zp
        have hown := hown.alloc (.cells zp 199)
        have hC := hC.alloc (.cells zp 199)
        refine hK.out _ _ (hS6 _ hC) (fun hH => ?_)
        clear hK K
        try simp only [List.getElem_toArray, List.getElem_cons_succ, List.getElem_cons_zero, Act.put, List.setIfInBounds_toArray, List.set_cons_zero, List.set_cons_succ]
        refine wpAnyH_ready (rs := [5]) (by kernel_rfl) (by simp) ?_
        refine AllReadyH.cons rfl (fun K hK => ?_) AllReadyH.nil
        · go_simp
          have hgeR := hC.size
          have hlt := hL.lt
          have hL := hL.alloc (.cells zp 199)
          have hR := Blk.new ((W7).alloc (.cells zp 199)) 199 zp
          have hown := hown.alloc (.cells zp 199)
          have hC := hC.alloc (.cells zp 199)
          refine hK.out _ _ (hS6 _ hC) (fun hH => ?_)
          clear hK K
          try simp only [List.getElem_toArray, List.getElem_cons_succ, List.getElem_cons_zero, Act.put, List.setIfInBounds_toArray, List.set_cons_zero, List.set_cons_succ]
          have hne : (W7).heap.size ≠ ((W7).alloc (.cells zp 199)).heap.size := by first | omega | (simp at hlt ⊢; omega)
          refine wpAnyH_ready (rs := [6]) (by kernel_rfl) (by simp) ?_
          refine AllReadyH.cons rfl (fun K hK => ?_) AllReadyH.nil
          rw [if_pos (by rfl)]
          refine op_store_blk 199 _ _ rfl ((W7).heap.size) (by first | rfl | simp [Act.eval]) PX (by simp [Act.eval]) 199 _ hL (by first | exact hi6X | kernel_rfl) (by first | rw [hsX]; rfl | rfl) hoX ?_
          intro W8 hCW8 hsW8 hL2
          have hR := hR.chg hCW8 (by simpa using hne.symm)
          have hown := own_chg hown hCW8 (fun k hk => by have := own_ne hown hL (by decide) hk; simpa using this)
          have hC := hC.on hCW8 (fun i hi => .inr (by simp only [List.mem_singleton] at hi; rw [hi]; exact hgeL))
          refine hK.out _ _ (hS6 _ hC) (fun hH => ?_)
          clear hK K
          try simp only [List.getElem_toArray, List.getElem_cons_succ, List.getElem_cons_zero, Act.put, List.setIfInBounds_toArray, List.set_cons_zero, List.set_cons_succ]
          refine wpAnyH_ready (rs := [7]) (by kernel_rfl) (by simp) ?_
          refine AllReadyH.cons rfl (fun K hK => ?_) AllReadyH.nil
          rw [if_pos (by rfl)]
          refine op_store_blk 199 _ _ rfl (((W7).alloc (.cells zp 199)).heap.size) (by first | rfl | simp [Act.eval]) (partA q h v2) (by simp [Act.eval]) 199 _ hR (by first | exact hi6X | kernel_rfl) (by first | rw [hsX]; rfl | rfl) (partA_one (own_one hown)) ?_
          intro W9 hCW9 hsW9 hR2
          have hL2 := hL2.chg hCW9 (by simpa using hne)
          have hown := own_chg hown hCW9 (fun k hk => by have := own_ne hown hR (by decide) hk; simpa using this)
          have hC := hC.on hCW9 (fun i hi => .inr (by simp only [List.mem_singleton] at hi; rw [hi]; exact hgeR))
          refine hK.out _ _ (hS6 _ hC) (fun hH => ?_)
          clear hK K
          try simp only [List.getElem_toArray, List.getElem_cons_succ, List.getElem_cons_zero, Act.put, List.setIfInBounds_toArray, List.set_cons_zero, List.set_cons_succ]
          refine wpAnyH_done (by kernel_rfl) ?_ _
          go_wp2_with fail
          go_meet
          exact ⟨(W7).heap.size, ((W7).alloc (.cells zp 199)).heap.size, v2, by simp, by simp, hne, hgeL, hgeR, hL2, hR2, hown, hC⟩
      · go_simp
        have hgeR := hC.size
        have hR := Blk.new (W7) 199 zp
        have hown := hown.alloc (.cells zp 199)
        have hC := hC.alloc (.cells zp 199)
        refine hK.out _ _ (hS6 _ hC) (fun hH => ?_)
        clear hK K
        try simp only [List.getElem_toArray, List.getElem_cons_succ, List.getElem_cons_zero, Act.put, List.setIfInBounds_toArray, List.set_cons_zero, List.set_cons_succ]
        refine wpAnyH_ready (rs := [4]) (by kernel_rfl) (by simp) ?_
        refine AllReadyH.cons rfl (fun K hK => ?_) AllReadyH.nil
        · go_simp
          have hgeL := hC.size
          have hlt := hR.lt
          have hR := hR.alloc (.cells zp 199)
          have hL := Blk.new ((W7).alloc (.cells zp 199)) 199 zp
          have hown := hown.alloc (.cells zp 199)
          have hC := hC.alloc (.cells zp 199)
          refine hK.out _ _ (hS6 _ hC) (fun hH => ?_)
          clear hK K
          try simp only [List.getElem_toArray, List.getElem_cons_succ, List.getElem_cons_zero, Act.put, List.setIfInBounds_toArray, List.set_cons_zero, List.set_cons_succ]
          have hne : ((W7).alloc (.cells zp 199)).heap.size ≠ (W7).heap.size := by first | omega | (simp at hlt ⊢; omega)
          refine wpAnyH_ready (rs := [6]) (by kernel_rfl) (by simp) ?_
          refine AllReadyH.cons rfl (fun K hK => ?_) AllReadyH.nil
          rw [if_pos (by rfl)]
          refine op_store_blk 199 _ _ rfl (((W7).alloc (.cells zp 199)).heap.size) (by first | rfl | simp [Act.eval]) PX (by simp [Act.eval]) 199 _ hL (by first | exact hi6X | kernel_rfl) (by first | rw [hsX]; rfl | rfl) hoX ?_
          intro W8 hCW8 hsW8 hL2
          have hR := hR.chg hCW8 (by simpa using hne.symm)
          have hown := own_chg hown hCW8 (fun k hk => by have := own_ne hown hL (by decide) hk; simpa using this)
          have hC := hC.on hCW8 (fun i hi => .inr (by simp only [List.mem_singleton] at hi; rw [hi]; exact hgeL))
          refine hK.out _ _ (hS6 _ hC) (fun hH => ?_)
          clear hK K
          try simp only [List.getElem_toArray, List.getElem_cons_succ, List.getElem_cons_zero, Act.put, List.setIfInBounds_toArray, List.set_cons_zero, List.set_cons_succ]
          refine wpAnyH_ready (rs := [7]) (by kernel_rfl) (by simp) ?_
          refine AllReadyH.cons rfl (fun K hK => ?_) AllReadyH.nil
          rw [if_pos (by rfl)]
          refine op_store_blk 199 _ _ rfl ((W7).heap.size) (by first | rfl | simp [Act.eval]) (partA q h v2) (by simp [Act.eval]) 199 _ hR (by first | exact hi6X | kernel_rfl) (by first | rw [hsX]; rfl | rfl) (partA_one (own_one hown)) ?_
          intro W9 hCW9 hsW9 hR2
          have hL2 := hL2.chg hCW9 (by simpa using hne)
          have hown := own_chg hown hCW9 (fun k hk => by have := own_ne hown hR (by decide) hk; simpa using this)
          have hC := hC.on hCW9 (fun i hi => .inr (by simp only [List.mem_singleton] at hi; rw [hi]; exact hgeR))
          refine hK.out _ _ (hS6 _ hC) (fun hH => ?_)
          clear hK K
          try simp only [List.getElem_toArray, List.getElem_cons_succ, List.getElem_cons_zero, Act.put, List.setIfInBounds_toArray, List.set_cons_zero, List.set_cons_succ]
          refine wpAnyH_done (by kernel_rfl) ?_ _
          go_wp2_with fail
          go_meet
          exact ⟨((W7).alloc (.cells zp 199)).heap.size, (W7).heap.size, v2, by simp, by simp, hne, hgeL, hgeR, hL2, hR2, hown, hC⟩
    · go_simp
      have hgeL := hC.size
      have hL := Blk.new (W6.drew) 199 zp
      have hC := hC.alloc (.cells zp 199)
      refine hK.out _ _ (hS6 _ hC) (fun hH => ?_)
      clear hK K
      try simp only [List.getElem_toArray, List.getElem_cons_succ, List.getElem_cons_zero, Act.put, List.setIfInBounds_toArray, List.set_cons_zero, List.set_cons_succ]
      refine wpAnyH_ready (rs := [3, 5]) (by kernel_rfl) (by simp) ?_
      refine AllReadyH.cons rfl (fun K hK => ?_) (AllReadyH.cons rfl (fun K hK => ?_) AllReadyH.nil)
      · go_simp
        refine (partof_w q (pgs q) h _ hqP).mono ?_
        rintro e W7 ⟨v2, rfl, hown2, hC7⟩
        have hL := hL.ext hC7
        have hown := own_base (b' := W6.heap.size) hown2 hC.size
        have hC := hC.trans hC7
        refine hK.out _ _ (hS6 _ hC) (fun hH => ?_)
        clear hK K
        try simp only [List.getElem_toArray, List.getElem_cons_succ, List.getElem_cons_zero, Act.put, List.setIfInBounds_toArray, List.set_cons_zero, List.set_cons_succ]
        refine wpAnyH_ready (rs := [5]) (by kernel_rfl) (by simp) ?_
        refine AllReadyH.cons rfl (fun K hK => ?_) AllReadyH.nil
        · go_simp
          have hgeR := hC.size
          have hlt := hL.lt
          have hL := hL.alloc (.cells zp 199)
          have hR := Blk.new (W7) 199 zp
          have hown := hown.alloc (.cells zp 199)
          have hC := hC.alloc (.cells zp 199)
          refine hK.out _ _ (hS6 _ hC) (fun hH => ?_)
          clear hK K
          try simp only [List.getElem_toArray, List.getElem_cons_succ, List.getElem_cons_zero, Act.put, List.setIfInBounds_toArray, List.set_cons_zero, List.set_cons_succ]
          have hne : (W6.drew).heap.size ≠ (W7).heap.size := by first | omega | (simp at hlt ⊢; omega)
          refine wpAnyH_ready (rs := [6]) (by kernel_rfl) (by simp) ?_
          refine AllReadyH.cons rfl (fun K hK => ?_) AllReadyH.nil
          rw [if_pos (by rfl)]
          refine op_store_blk 199 _ _ rfl ((W6.drew).heap.size) (by first | rfl | simp [Act.eval]) PX (by simp [Act.eval]) 199 _ hL (by first | exact hi6X | kernel_rfl) (by first | rw [hsX]; rfl | rfl) hoX ?_
          intro W8 hCW8 hsW8 hL2
          have hR := hR.chg hCW8 (by simpa using hne.symm)
          have hown := own_chg hown hCW8 (fun k hk => by have := own_ne hown hL (by decide) hk; simpa using this)
          have hC := hC.on hCW8 (fun i hi => .inr (by simp only [List.mem_singleton] at hi; rw [hi]; exact hgeL))
          refine hK.out _ _ (hS6 _ hC) (fun hH => ?_)
          clear hK K
          try simp only [List.getElem_toArray, List.getElem_cons_succ, List.getElem_cons_zero, Act.put, List.setIfInBounds_toArray, List.set_cons_zero, List.set_cons_succ]
          refine wpAnyH_ready (rs := [7]) (by kernel_rfl) (by simp) ?_
          refine AllReadyH.cons rfl (fun K hK => ?_) AllReadyH.nil
          rw [if_pos (by rfl)]
          refine op_store_blk 199 _ _ rfl ((W7).heap.size) (by first | rfl | simp [Act.eval]) (partA q h v2) (by simp [Act.eval]) 199 _ hR (by first | exact hi6X | kernel_rfl) (by first | rw [hsX]; rfl | rfl) (partA_one (own_one hown)) ?_
          intro W9 hCW9 hsW9 hR2
          have hL2 := hL2.chg hCW9 (by simpa using hne)
          have hown := own_chg hown hCW9 (fun k hk => by have := own_ne hown hR (by decide) hk; simpa using this)
          have hC := hC.on hCW9 (fun i hi => .inr (by simp only [List.mem_singleton] at hi; rw [hi]; exact hgeR))
          refine hK.out _ _ (hS6 _ hC) (fun hH => ?_)
          clear hK K
          try simp only [List.getElem_toArray, List.getElem_cons_succ, List.getElem_cons_zero, Act.put, List.setIfInBounds_toArray, List.set_cons_zero, List.set_cons_succ]
          refine wpAnyH_done (by kernel_rfl) ?_ _
          go_wp2_with fail
          go_meet
          exact ⟨(W6.drew).heap.size, (W7).heap.size, v2, by simp, by simp, hne, hgeL, hgeR, hL2, hR2, hown, hC⟩
      · go_simp
        have hgeR := hC.size
        have hlt := hL.lt
        have hL := hL.alloc (.cells zp 199)
        have hR := Blk.new ((W6.drew).alloc (.cells zp 199)) 199 zp
        have hC := hC.alloc (.cells zp 199)
        refine hK.out _ _ (hS6 _ hC) (fun hH => ?_)
        clear hK K
        try simp only [List.getElem_toArray, List.getElem_cons_succ, List.getElem_cons_zero, Act.put, List.setIfInBounds_toArray, List.set_cons_zero, List.set_cons_succ]
        refine wpAnyH_ready (rs := [3]) (by kernel_rfl) (by simp) ?_
        refine AllReadyH.cons rfl (fun K hK => ?_) AllReadyH.nil
        · go_simp
          refine (partof_w q (pgs q) h _ hqP).mono ?_
          rintro e W7 ⟨v2, rfl, hown2, hC7⟩
          have hL := hL.ext hC7
          have hR := hR.ext hC7
          have hown := own_base (b' := W6.heap.size) hown2 hC.size
          have hC := hC.trans hC7
          refine hK.out _ _ (hS6 _ hC) (fun hH => ?_)
          clear hK K
          try simp only [List.getElem_toArray, List.getElem_cons_succ, List.getElem_cons_zero, Act.put, List.setIfInBounds_toArray, List.set_cons_zero, List.set_cons_succ]
          have hne : (W6.drew).heap.size ≠ ((W6.drew).alloc (.cells zp 199)).heap.size := by first | omega | (simp at hlt ⊢; omega)
          refine wpAnyH_ready (rs := [6]) (by kernel_rfl) (by simp) ?_
          refine AllReadyH.cons rfl (fun K hK => ?_) AllReadyH.nil
          rw [if_pos (by rfl)]
          refine op_store_blk 199 _ _ rfl ((W6.drew).heap.size) (by first | rfl | simp [Act.eval]) PX (by simp [Act.eval]) 199 _ hL (by first | exact hi6X | kernel_rfl) (by first | rw [hsX]; rfl | rfl) hoX ?_
          intro W8 hCW8 hsW8 hL2
          have hR := hR.chg hCW8 (by simpa using hne.symm)
          have hown := own_chg hown hCW8 (fun k hk => by have := own_ne hown hL (by decide) hk; simpa using this)
          have hC := hC.on hCW8 (fun i hi => .inr (by simp only [List.mem_singleton] at hi; rw [hi]; exact hgeL))
          refine hK.out _ _ (hS6 _ hC) (fun hH => ?_)
          clear hK K
          try simp only [List.getElem_toArray, List.getElem_cons_succ, List.getElem_cons_zero, Act.put, List.setIfInBounds_toArray, List.set_cons_zero, List.set_cons_succ]
          refine wpAnyH_ready (rs := [7]) (by kernel_rfl) (by simp) ?_
          refine AllReadyH.cons rfl (fun K hK => ?_) AllReadyH.nil
          rw [if_pos (by rfl)]
          refine op_store_blk 199 _ _ rfl (((W6.drew).alloc (.cells zp 199)).heap.size) (by first | rfl | simp [Act.eval]) (partA q h v2) (by simp [Act.eval]) 199 _ hR (by first | exact hi6X | kernel_rfl) (by first | rw [hsX]; rfl | rfl) (partA_one (own_one hown)) ?_
          intro W9 hCW9 hsW9 hR2
          have hL2 := hL2.chg hCW9 (by simpa using hne)
          have hown := own_chg hown hCW9 (fun k hk => by have := own_ne hown hR (by decide) hk; simpa using this)
          have hC := hC.on hCW9 (fun i hi => .inr (by simp only [List.mem_singleton] at hi; rw [hi]; exact hgeR))
          refine hK.out _ _ (hS6 _ hC) (fun hH => ?_)
          clear hK K
          try simp only [List.getElem_toArray, List.getElem_cons_succ, List.getElem_cons_zero, Act.put, List.setIfInBounds_toArray, List.set_cons_zero, List.set_cons_succ]
          refine wpAnyH_done (by kernel_rfl) ?_ _
          go_wp2_with fail
          go_meet
          exact ⟨(W6.drew).heap.size, ((W6.drew).alloc (.cells zp 199)).heap.size, v2, by simp, by simp, hne, hgeL, hgeR, hL2, hR2, hown, hC⟩
    · go_simp
      have hgeR := hC.size
      have hR := Blk.new (W6.drew) 199 zp
      have hC := hC.alloc (.cells zp 199)
      refine hK.out _ _ (hS6 _ hC) (fun hH => ?_)
      clear hK K
      try simp only [List.getElem_toArray, List.getElem_cons_succ, List.getElem_cons_zero, Act.put, List.setIfInBounds_toArray, List.set_cons_zero, List.set_cons_succ]
      refine wpAnyH_ready (rs := [3, 4]) (by kernel_rfl) (by simp) ?_
      refine AllReadyH.cons rfl (fun K hK => ?_) (AllReadyH.cons rfl (fun K hK => ?_) AllReadyH.nil)
      · go_simp
        refine (partof_w q (pgs q) h _ hqP).mono ?_
        rintro e W7 ⟨v2, rfl, hown2, hC7⟩
        have hR := hR.ext hC7
        have hown := own_base (b' := W6.heap.size) hown2 hC.size
        have hC := hC.trans hC7
        refine hK.out _ _ (hS6 _ hC) (fun hH => ?_)
        clear hK K
        try simp only [List.getElem_toArray, List.getElem_cons_succ, List.getElem_cons_zero, Act.put, List.setIfInBounds_toArray, List.set_cons_zero, List.set_cons_succ]
        refine wpAnyH_ready (rs := [4]) (by kernel_rfl) (by simp) ?_
        refine AllReadyH.cons rfl (fun K hK => ?_) AllReadyH.nil
        · go_simp
          have hgeL := hC.size
          have hlt := hR.lt
          have hR := hR.alloc (.cells zp 199)
          have hL := Blk.new (W7) 199 zp
          have hown := hown.alloc (.cells zp 199)
          have hC := hC.alloc (.cells zp 199)
          refine hK.out _ _ (hS6 _ hC) (fun hH => ?_)
          clear hK K
          try simp only [List.getElem_toArray, List.getElem_cons_succ, List.getElem_cons_zero, Act.put, List.setIfInBounds_toArray, List.set_cons_zero, List.set_cons_succ]
          have hne : (W7).heap.size ≠ (W6.drew).heap.size := by first | omega | (simp at hlt ⊢; omega)
          refine wpAnyH_ready (rs := [6]) (by kernel_rfl) (by simp) ?_
          refine AllReadyH.cons rfl (fun K hK => ?_) AllReadyH.nil
          rw [if_pos (by rfl)]
          refine op_store_blk 199 _ _ rfl ((W7).heap.size) (by first | rfl | simp [Act.eval]) PX (by simp [Act.eval]) 199 _ hL (by first | exact hi6X | kernel_rfl) (by first | rw [hsX]; rfl | rfl) hoX ?_
          intro W8 hCW8 hsW8 hL2
          have hR := hR.chg hCW8 (by simpa using hne.symm)
          have hown := own_chg hown hCW8 (fun k hk => by have := own_ne hown hL (by decide) hk; simpa using this)
          have hC := hC.on hCW8 (fun i hi => .inr (by simp only [List.mem_singleton] at hi; rw [hi]; exact hgeL))
          refine hK.out _ _ (hS6 _ hC) (fun hH => ?_)
          clear hK K
          try simp only [List.getElem_toArray, List.getElem_cons_succ, List.getElem_cons_zero, Act.put, List.setIfInBounds_toArray, List.set_cons_zero, List.set_cons_succ]
          refine wpAnyH_ready (rs := [7]) (by kernel_rfl) (by simp) ?_
          refine AllReadyH.cons rfl (fun K hK => ?_) AllReadyH.nil
          rw [if_pos (by rfl)]
          refine op_store_blk 199 _ _ rfl ((W6.drew).heap.size) (by first | rfl | simp [Act.eval]) (partA q h v2) (by simp [Act.eval]) 199 _ hR (by first | exact hi6X | kernel_rfl) (by first | rw [hsX]; rfl | rfl) (partA_one (own_one hown)) ?_
          intro W9 hCW9 hsW9 hR2
          have hL2 := hL2.chg hCW9 (by simpa using hne)
          have hown := own_chg hown hCW9 (fun k hk => by have := own_ne hown hR (by decide) hk; simpa using this)
          have hC := hC.on hCW9 (fun i hi => .inr (by simp only [List.mem_singleton] at hi; rw [hi]; exact hgeR))
          refine hK.out _ _ (hS6 _ hC) (fun hH => ?_)
          clear hK K
          try simp only [List.getElem_toArray, List.getElem_cons_succ, List.getElem_cons_zero, Act.put, List.setIfInBounds_toArray, List.set_cons_zero, List.set_cons_succ]
          refine wpAnyH_done (by kernel_rfl) ?_ _
          go_wp2_with fail
          go_meet
          exact ⟨(W7).heap.size, (W6.drew).heap.size, v2, by simp, by simp, hne, hgeL, hgeR, hL2, hR2, hown, hC⟩
      · go_simp
        have hgeL := hC.size
        have hlt := hR.lt
        have hR := hR.alloc (.cells zp 199)
        have hL := Blk.new ((W6.drew).alloc (.cells zp 199)) 199 zp
        have hC := hC.alloc (.cells zp 199)
        refine hK.out _ _ (hS6 _ hC) (fun hH => ?_)
        clear hK K
        try simp only [List.getElem_toArray, List.getElem_cons_succ, List.getElem_cons_zero, Act.put, List.setIfInBounds_toArray, List.set_cons_zero, List.set_cons_succ]
        refine wpAnyH_ready (rs := [3]) (by kernel_rfl) (by simp) ?_
        refine AllReadyH.cons rfl (fun K hK => ?_) AllReadyH.nil
        · go_simp
          refine (partof_w q (pgs q) h _ hqP).mono ?_
          rintro e W7 ⟨v2, rfl, hown2, hC7⟩
          have hL := hL.ext hC7
          have hR := hR.ext hC7
          have hown := own_base (b' := W6.heap.size) hown2 hC.size
          have hC := hC.trans hC7
          refine hK.out _ _ (hS6 _ hC) (fun hH => ?_)
          clear hK K
          try simp only [List.getElem_toArray, List.getElem_cons_succ, List.getElem_cons_zero, Act.put, List.setIfInBounds_toArray, List.set_cons_zero, List.set_cons_succ]
          have hne : ((W6.drew).alloc (.cells zp 199)).heap.size ≠ (W6.drew).heap.size := by first | omega | (simp at hlt ⊢; omega)
          refine wpAnyH_ready (rs := [6]) (by kernel_rfl) (by simp) ?_
          refine AllReadyH.cons rfl (fun K hK => ?_) AllReadyH.nil
          rw [if_pos (by rfl)]
          refine op_store_blk 199 _ _ rfl (((W6.drew).alloc (.cells zp 199)).heap.size) (by first | rfl | simp [Act.eval]) PX (by simp [Act.eval]) 199 _ hL (by first | exact hi6X | kernel_rfl) (by first | rw [hsX]; rfl | rfl) hoX ?_
          intro W8 hCW8 hsW8 hL2
          have hR := hR.chg hCW8 (by simpa using hne.symm)
          have hown := own_chg hown hCW8 (fun k hk => by have := own_ne hown hL (by decide) hk; simpa using this)
          have hC := hC.on hCW8 (fun i hi => .inr (by simp only [List.mem_singleton] at hi; rw [hi]; exact hgeL))
          refine hK.out _ _ (hS6 _ hC) (fun hH => ?_)
          clear hK K
          try simp only [List.getElem_toArray, List.getElem_cons_succ, List.getElem_cons_zero, Act.put, List.setIfInBounds_toArray, List.set_cons_zero, List.set_cons_succ]
          refine wpAnyH_ready (rs := [7]) (by kernel_rfl) (by simp) ?_
          refine AllReadyH.cons rfl (fun K hK => ?_) AllReadyH.nil
          rw [if_pos (by rfl)]
          refine op_store_blk 199 _ _ rfl ((W6.drew).heap.size) (by first | rfl | simp [Act.eval]) (partA q h v2) (by simp [Act.eval]) 199 _ hR (by first | exact hi6X | kernel_rfl) (by first | rw [hsX]; rfl | rfl) (partA_one (own_one hown)) ?_
          intro W9 hCW9 hsW9 hR2
          have hL2 := hL2.chg hCW9 (by simpa using hne)
          have hown := own_chg hown hCW9 (fun k hk => by have := own_ne hown hR (by decide) hk; simpa using this)
          have hC := hC.on hCW9 (fun i hi => .inr (by simp only [List.mem_singleton] at hi; rw [hi]; exact hgeR))
          refine hK.out _ _ (hS6 _ hC) (fun hH => ?_)
          clear hK K
          try simp only [List.getElem_toArray, List.getElem_cons_succ, List.getElem_cons_zero, Act.put, List.setIfInBounds_toArray, List.set_cons_zero, List.set_cons_succ]
          refine wpAnyH_done (by kernel_rfl) ?_ _
          go_wp2_with fail
          go_meet
          exact ⟨((W6.drew).alloc (.cells zp 199)).heap.size, (W6.drew).heap.size, v2, by simp, by simp, hne, hgeL, hgeR, hL2, hR2, hown, hC⟩
  case rest =>
  obtain ⟨L, R, v2, rfl, rfl, hLR, hgeL, hgeR, hL, hR, hown, hC⟩ := hcut
  obtain ⟨PY, hPY⟩ : ∃ PY, PY = partA q h v2 := ⟨_, rfl⟩
  rw [← hPY] at hR
  have hsY : PY.size = 6 := by rw [hPY]; rfl
  have hoY : PY.all (·.oneCell') = true := by rw [hPY]; exact partA_one (own_one hown)
  have hi6Y : (Tryz.prog.info? 199).map (·.size) = some PY.size := by rw [hsY]; kernel_rfl
  have hi199Y : (Tryz.prog.info? 199).map (·.size) = some PY.toList.length := by rw [Array.length_toList, hsY]; kernel_rfl
  obtain ⟨W7, hW7e⟩ : ∃ W7, W7 = wc := ⟨_, rfl⟩
  rw [← hW7e] at hL hR hown hC ⊢
  clear hW7e
  have HPY := Lib.hid hPY
  clear hPY
  go_upto_if 104 with fail
  go_cut [17, 18] (fun s17 s18 wx => ∃ L R vl vr, s17 = .pointer (some ⟨L, 0, none⟩) ∧ s18 = .pointer (some ⟨R, 0, none⟩) ∧ L ≠ R ∧ W6.heap.size ≤ L ∧ W6.heap.size ≤ R ∧ Blk wx L 199 (partA pl gl vl) ∧ Blk wx R 199 (partA pr gr vr) ∧ SideOf wx wb bw W6.heap.size vl gl ∧ SideOf wx wb bw W6.heap.size vr gr ∧ Chg [] W6 wx)
  case first =>
    have hlt6 := hW6.ar.lt
    have hwl6 := Blk.lt hW6.wk
    have hsv : ∀ W, Chg [] W6 W → SideOf W wb bw W6.heap.size (.slice A g.l.length c) g := fun W hW =>
      ⟨(hS0.chg hC6 (fun k hk => by simpa using (hvn k hk).1)).ext hW, fun k hk => by (have h1 := hvb k hk; have h2 := hC6.size; have h3 := hW.size; omega), hvn, rfl⟩
    have hsv2 : ∀ W, Chg [L, R] W7 W → SideOf W wb bw W6.heap.size v2 h := fun W hW =>
      ⟨(Sl.own hown).chg hW (fun k hk => by
          have h1 := own_ne hown hL (by decide) hk
          have h2 := own_ne hown hR (by decide) hk
          simp; exact ⟨h1, h2⟩), fun k hk => by (have h1 := (hown.lt k hk).2; have h2 := hW.size; omega), fun k hk => by (have h1 := (hown.lt k hk).1; exact ⟨by omega, by omega⟩), own_one hown⟩
    rcases hsel with ⟨hj1, rfl, rfl, rfl, rfl⟩ | ⟨hj1, rfl, rfl, rfl, rfl⟩
    · have z4 : decide (j < at_) = false := decide_eq_false (by omega)
      go_wp2_with fail
      go_meet
      exact ⟨L, R, _, v2, rfl, rfl, hLR, hgeL, hgeR, HPX.out ▸ hL, HPY.out ▸ hR, hsv _ hC, hsv2 _ (Chg.refl _ _), hC⟩
    · have z4 : decide (j < at_) = true := decide_eq_true (by omega)
      go_wp2_with (first
        | (refine wpList_load_row rfl 199 (.tmp 18) rfl R rfl 199 PY (0, 0) _ hR Tryz.underlying199 rfl hi6Y ?_)
        | (refine wpList_load_row rfl 199 (.tmp 17) rfl L rfl 199 PX (0, 0) _ hL Tryz.underlying199 rfl hi6X ?_)
        | (refine wpList_store_blk rfl 199 (.tmp 17) (.tmp 105) rfl L rfl PY rfl 199 PX hL hi6Y (by rw [hsX, hsY]) hoY ?_; intro w8 hC8 hs8 hL8; have hR8 := hR.chg hC8 (by simpa using hLR.symm))
        | (refine wpList_store_blk rfl 199 (.tmp 18) (.tmp 106) rfl R rfl PX rfl 199 PY hR8 hi6X (by rw [hsX, hsY]) hoX ?_; intro w9 hC9 hs9 hR9; have hL9 := hL8.chg hC9 (by simpa using hLR)))
      go_meet
      have hCx : Chg [L, R] W7 w9 := (hC8.mono (by simp)).trans (hC9.mono (by simp))
      have hCy : Chg [] W6 w9 := hC.on hCx (fun i hi => .inr (by simp at hi; rcases hi with h | h <;> omega))
      exact ⟨L, R, v2, _, rfl, rfl, hLR, hgeL, hgeR, HPY.out ▸ hL9, HPX.out ▸ hR9, hsv2 _ hCx, hsv _ hCy, hCy⟩
  case rest =>
  clear hL hR hown hC hLR hgeL hgeR hsX hoX hsY hoY hi6X hi6Y hi199 hi199Y hQ6 hB6 hS6 hi72
  obtain ⟨L, R, vl, vr, rfl, rfl, hLR, hgeL, hgeR, hL, hR, hsl, hsr, hC⟩ := hcut
  obtain ⟨W8, hW8e⟩ : ∃ W8, W8 = wc := ⟨_, rfl⟩
  rw [← hW8e] at hL hR hsl hsr hC ⊢
  clear hW8e
  obtain ⟨x0, x1, x2, x3, x4, x5⟩ := partA_cells hL
  obtain ⟨y0, y1, y2, y3, y4, y5⟩ := partA_cells hR
  clear x0 x1 x2 x3 x4 y0 y1 y2 y3 y4
  have hg36 : g.l.length ≤ 36 := by have := load_eq g.l; omega
  have hgl1 : 0 < gl.l.length ∧ 0 < gr.l.length ∧ gl.l.length ≤ 300 ∧ gr.l.length ≤ 300 ∧ OkS (gl.l ++ gr.l) := by
    rcases hsel with ⟨_, rfl, rfl, rfl, rfl⟩ | ⟨_, rfl, rfl, rfl, rfl⟩
    · exact ⟨hg1, hh1, by omega, by omega, fun x hx => (List.mem_append.1 hx).elim (hO x) (hhO x)⟩
    · exact ⟨hh1, hg1, by omega, by omega, fun x hx => (List.mem_append.1 hx).elim (hhO x) (hO x)⟩
  obtain ⟨hl1, hr1, hl2, hr2, hOa⟩ := hgl1
  have hsecm : max (at_ : Int) (j : Int) = (sec : Int) := by rw [Hsec.out]; split <;> omega
  obtain ⟨Al, cl, rfl, hcl1, hcl2⟩ := hsl.sl.form
  obtain ⟨Ar, cr, rfl, hcr1, hcr2⟩ := hsr.sl.form
  go_upto_if 118 with (first
    | (go_at_call 148; refine (tcost_w (gl.l ++ gr.l) va w9 (Sl.own howna') hOa (by simp; omega)).mono ?_; rintro e w10 ⟨rfl, hC10⟩)
    | (go_at_call 152; go_loud (refine (concat_w gl.l gr.l _ _ W8.heap.size _ (Blk.new W8 94 _) (hsl.sl.ext ((Chg.refl [] W8).alloc _)) (hsr.sl.ext ((Chg.refl [] W8).alloc _)) hl1 hr1 (by omega) (by omega) (fun k hk => by have := hsl.lt k hk; simp; omega) (fun k hk => by have := hsr.lt k hk; simp; omega)).mono ?_; rintro e w9 ⟨va, rfl, howna, hC9⟩; have howna' : w9.ownsRow W8.heap.size 93 2 va (gl.l ++ gr.l).length (prs (gl.l ++ gr.l)) := (by rw [List.length_append]; exact own_base howna (by simp)))))
  obtain ⟨all, hall⟩ : ∃ all, all = gl.l ++ gr.l := ⟨_, rfl⟩
  rw [← hall] at hM hE hOa howna' ⊢
  have hsz8 := hC9.size
  have hC11 : Chg [] W8 w10 := (((Chg.refl [] W8).alloc _).trans hC9).trans hC10
  have hL2 := hL.ext hC11
  have hR2 := hR.ext hC11
  have howna2 := own_ext howna' hC10
  have hCC : Chg [wb] w w10 := hC6.nil (hC.trans hC11)
  have hW10 := hW6.chg (hC.trans hC11) (by simp)
  have hs10 := hC11.size
  have hs68 := hC.size
  have hs06 := hC6.size
  have hup10 := own_chg hup hCC (fun k hk => by have := (hap k hk).1; simpa using this)
  have hlt10 := hW10.ar.lt
  have hwl10 := Blk.lt hW10.wk
  have hlL := hL.lt
  have hlR := hR.lt
  have hla : all.length ≤ gl.l.length + gr.l.length := by rw [hall, List.length_append]; exact Nat.le_refl _
  have hla2 : 2 ≤ all.length := by rw [hall, List.length_append]; omega
  have Hall := Lib.hid hall
  clear x5 y5 hL hR hsl hsr hall
  have hside : (1 ≤ pl ∧ pl ≤ 40 ∧ usedB pgs pl = true) ∧ (1 ≤ pr ∧ pr ≤ 40 ∧ usedB pgs pr = true) ∧ pl ≠ pr ∧ rt ≠ pr := by
    rcases hsel with ⟨_, rfl, rfl, rfl, rfl⟩ | ⟨_, rfl, rfl, rfl, rfl⟩
    · exact ⟨⟨h0, h1, hu⟩, ⟨q0, q1, hqu⟩, hnq, hrq⟩
    · exact ⟨⟨q0, q1, hqu⟩, ⟨h0, h1, hu⟩, hnq.symm, hrn⟩
  obtain ⟨⟨hpl0, hpl1, hplu⟩, ⟨hpr0, hpr1, hpru⟩, hplr, hrpr⟩ := hside
  have hsl : sec < up.length := by rw [Hsec.out]; split <;> omega
  have hlt6 := hW6.ar.lt
  have hwl6 := Blk.lt hW6.wk
  have hRn : R ∉ [wb, bw] := by simp; omega
  have hLn : L ∉ [wb, bw] := by simp; omega
  by_cases hmrg : load all ≤ 108
  · have z5 : decide ((load all : Int) ≤ 108) = true := decide_eq_true (by omega)
    have hgo := hM hmrg
    obtain ⟨Aa, ca, rfl, hca1, hca2⟩ := (Sl.own howna2).form
    obtain ⟨y0, y1, y2, y3, y4, y5⟩ := partA_cells hR2
    clear y0 y1 y2 y5
    go_wp2_with fail
    try simp only [Act.put, List.setIfInBounds_toArray, List.set_cons_zero, List.set_cons_succ]
    go_cut [] (fun wx => Blk wx L 199 (partA pl { gl with high := gr.high, next := gr.next, l := all } (.slice Aa all.length ca)) ∧ Chg [L] w10 wx)
    case first =>
      have hS23 : ∀ W, Chg [L] w10 W → W.cell? ⟨R, 3, none⟩ = some (.string gr.high) ∧ W.cell? ⟨R, 4, none⟩ = some (.int .i64 gr.next) ∧ Chg [L] w10 W := fun W i3 => ⟨by rw [i3.cell hR2.lt (by simpa using hLR.symm)]; exact y3, by rw [i3.cell hR2.lt (by simpa using hLR.symm)]; exact y4, i3⟩
      clear y3 y4
      refine wp_region_held_drew (S := fun W => W.cell? ⟨R, 3, none⟩ = some (.string gr.high) ∧ W.cell? ⟨R, 4, none⟩ = some (.int .i64 gr.next) ∧ Chg [L] w10 W) (by kernel_rfl) (hS23 _ ((Chg.refl _ w10).drew)) (fun hH => ?_)
      refine wpAnyH_take (i := 0) (v := .pointer (some ⟨R, 3, none⟩)) rfl (by kernel_rfl) (by kernel_rfl) (by kernel_rfl) (fun _ _ _ h => h) (Or.inl ⟨by rfl, fun w' hw' => by go_simp⟩) hH ?_
      try simp only [List.getElem_toArray, List.getElem_cons_succ, List.getElem_cons_zero, Act.put, List.setIfInBounds_toArray, List.set_cons_zero, List.set_cons_succ]
      refine wpAnyH_take (i := 1) (v := .string gr.high) rfl (by kernel_rfl) (by kernel_rfl) (by kernel_rfl) (fun _ _ _ h => h) (yieldsIf_load_cell (by rfl) 9 _ rfl (R) (3) rfl _ (fun w' hw' => hw'.1) (fun w => Tryz.isAgg9 w)) hH ?_
      try simp only [List.getElem_toArray, List.getElem_cons_succ, List.getElem_cons_zero, Act.put, List.setIfInBounds_toArray, List.set_cons_zero, List.set_cons_succ]
      refine wpAnyH_take (i := 2) (v := .pointer (some ⟨R, 4, none⟩)) rfl (by kernel_rfl) (by kernel_rfl) (by kernel_rfl) (fun _ _ _ h => h) (Or.inl ⟨by rfl, fun w' hw' => by go_simp⟩) hH ?_
      try simp only [List.getElem_toArray, List.getElem_cons_succ, List.getElem_cons_zero, Act.put, List.setIfInBounds_toArray, List.set_cons_zero, List.set_cons_succ]
      refine wpAnyH_take (i := 3) (v := .int .i64 gr.next) rfl (by kernel_rfl) (by kernel_rfl) (by kernel_rfl) (fun _ _ _ h => h) (yieldsIf_load_cell (by rfl) 3 _ rfl (R) (4) rfl _ (fun w' hw' => hw'.2.1) (fun w => Tryz.isAgg3 w)) hH ?_
      try simp only [List.getElem_toArray, List.getElem_cons_succ, List.getElem_cons_zero, Act.put, List.setIfInBounds_toArray, List.set_cons_zero, List.set_cons_succ]
      refine wpAnyH_take (i := 4) (v := .slice Aa all.length ca) rfl (by kernel_rfl) (by kernel_rfl) (by kernel_rfl) (fun _ _ _ h => h) (Or.inl ⟨by rfl, fun w' hw' => by go_simp⟩) hH ?_
      try simp only [List.getElem_toArray, List.getElem_cons_succ, List.getElem_cons_zero, Act.put, List.setIfInBounds_toArray, List.set_cons_zero, List.set_cons_succ]
      refine wpAnyH_take (i := 5) (v := .pointer (some ⟨L, 3, none⟩)) rfl (by kernel_rfl) (by kernel_rfl) (by kernel_rfl) (fun _ _ _ h => h) (Or.inl ⟨by rfl, fun w' hw' => by go_simp⟩) hH ?_
      try simp only [List.getElem_toArray, List.getElem_cons_succ, List.getElem_cons_zero, Act.put, List.setIfInBounds_toArray, List.set_cons_zero, List.set_cons_succ]
      refine wpAnyH_ready (rs := [6]) (by kernel_rfl) (by simp) ?_
      refine AllReadyH.cons rfl (fun K hK => ?_) AllReadyH.nil
      rw [if_pos (by rfl)]
      refine op_store_one 9 _ _ rfl (L) (3) rfl (.string gr.high) rfl 199 (_) hL2.drew (by simp [partA]) (by kernel_rfl) rfl ?_
      intro W12 hC12 hsW12 hBW12
      refine hK.out _ _ (hS23 _ (((Chg.refl _ w10).drew).trans hC12)) (fun hH => ?_)
      clear hK K
      try simp only [List.getElem_toArray, List.getElem_cons_succ, List.getElem_cons_zero, Act.put, List.setIfInBounds_toArray, List.set_cons_zero, List.set_cons_succ]
      refine wpAnyH_take (i := 7) (v := .pointer (some ⟨L, 4, none⟩)) rfl (by kernel_rfl) (by kernel_rfl) (by kernel_rfl) (fun _ _ _ h => h) (Or.inl ⟨by rfl, fun w' hw' => by go_simp⟩) hH ?_
      try simp only [List.getElem_toArray, List.getElem_cons_succ, List.getElem_cons_zero, Act.put, List.setIfInBounds_toArray, List.set_cons_zero, List.set_cons_succ]
      refine wpAnyH_ready (rs := [8]) (by kernel_rfl) (by simp) ?_
      refine AllReadyH.cons rfl (fun K hK => ?_) AllReadyH.nil
      rw [if_pos (by rfl)]
      refine op_store_one 3 _ _ rfl (L) (4) rfl (.int .i64 gr.next) rfl 199 (_) hBW12 (by simp [partA]) (by kernel_rfl) rfl ?_
      intro W13 hC13 hsW13 hBW13
      refine hK.out _ _ (hS23 _ ((((Chg.refl _ w10).drew).trans hC12).trans hC13)) (fun hH => ?_)
      clear hK K
      try simp only [List.getElem_toArray, List.getElem_cons_succ, List.getElem_cons_zero, Act.put, List.setIfInBounds_toArray, List.set_cons_zero, List.set_cons_succ]
      refine wpAnyH_take (i := 9) (v := .pointer (some ⟨L, 5, none⟩)) rfl (by kernel_rfl) (by kernel_rfl) (by kernel_rfl) (fun _ _ _ h => h) (Or.inl ⟨by rfl, fun w' hw' => by go_simp⟩) hH ?_
      try simp only [List.getElem_toArray, List.getElem_cons_succ, List.getElem_cons_zero, Act.put, List.setIfInBounds_toArray, List.set_cons_zero, List.set_cons_succ]
      refine wpAnyH_ready (rs := [10]) (by kernel_rfl) (by simp) ?_
      refine AllReadyH.cons rfl (fun K hK => ?_) AllReadyH.nil
      rw [if_pos (by rfl)]
      refine op_store_one 94 _ _ rfl (L) (5) rfl (.slice Aa all.length ca) rfl 199 (_) hBW13 (by simp [partA]) (by kernel_rfl) rfl ?_
      intro W14 hC14 hsW14 hBW14
      refine hK.out _ _ (hS23 _ (((((Chg.refl _ w10).drew).trans hC12).trans hC13).trans hC14)) (fun hH => ?_)
      clear hK K
      try simp only [List.getElem_toArray, List.getElem_cons_succ, List.getElem_cons_zero, Act.put, List.setIfInBounds_toArray, List.set_cons_zero, List.set_cons_succ]
      refine wpAnyH_done (by kernel_rfl) ?_ _
      go_wp2_with fail
      go_meet
      exact ⟨hBW14, ((((Chg.refl _ w10).drew).trans hC12).trans hC13).trans hC14⟩
    case rest =>
      obtain ⟨hL3, hC12⟩ := hcut
      obtain ⟨W12, hW12e⟩ : ∃ W12, W12 = wc := ⟨_, rfl⟩
      rw [← hW12e] at hL3 hC12 ⊢
      clear hW12e hL2
      have hW12 := hW10.chg hC12 (fun i hi => by simp at hi; omega)
      have hR3 := hR2.chg hC12 (by simpa using hLR.symm)
      have hs12 := hC12.size
      have howna3 := own_chg howna2 hC12 (fun k hk => by have := own_ne howna2 hR2 (by decide) hk; have h2 := (howna2.lt k hk).1; simp; omega)
      have hup12 := own_chg hup10 hC12 (fun k hk => by have := (hup.lt k hk).2; simp; omega)
      have hCC12 : Chg [wb] w W12 := hCC.on hC12 (fun i hi => .inr (by simp at hi; omega))
      go_wp2_with (first
        | (refine wpList_load_row rfl 199 (.tmp 17) rfl L rfl 199 (partA pl { gl with high := gr.high, next := gr.next, l := all } (.slice Aa all.length ca)) (0, 0) _ hL3 Tryz.underlying199 rfl (by kernel_rfl) ?_)
        | (go_at_call 151; go_loud (refine (twrite_w wb ba bm bw fr rt pgs pl { gl with high := gr.high, next := gr.next, l := all } (.slice Aa all.length ca) _ hW12 (Sl.own howna3) (fun k hk => (howna3.lt k hk).2) hgo hpl0 hpl1 hplu hr).mono ?_; rintro e w13 ⟨pg, rfl, hP13, hW13, hC13⟩; have hR13 := hR3.chg hC13 hRn; have y0 := (partA_cells hR13).1; have hup13 := own_chg hup12 hC13 (fun k hk => by have := hap k hk; simp; omega)))
        | (go_at_call 153; go_loud (refine (trelease_w wb ba bm bw fr rt _ pr _ hW13 hf hpr0 hpr1 (by unfold usedB upd; rw [if_neg hplr.symm]; exact hpru) hr hrpr).mono ?_; rintro e w14 ⟨rfl, hW14, hC14⟩; have hup14 := own_chg hup13 hC14 (fun k hk => by have := hap k hk; simp; omega)))
        | (go_at_call 121; go_loud (refine (delete_v base up _ sec _ _ _ rfl (by first | rfl | omega) hup14 hsl (by omega)).mono ?_; rintro e w15 ⟨v', rfl, hown15, hC15⟩)))
      go_ret
      left
      have hall := Hall.out
      refine ⟨hall ▸ hmrg, pg, v', rfl, hall ▸ hP13, hW14.chg hC15 (fun i hi => hap i (by simpa using hi)), ?_, ?_⟩
      · rw [drop_pairs up sec hsl] at hown15
        exact hown15
      · exact (((hCC12.mono (by simp)).trans (hC13.mono (by simp))).trans (hC14.mono (by simp))).trans (hC15.mono (fun i hi => by simp at hi ⊢; exact .inr (.inr hi)))
  · have z5 : decide ((load all : Int) ≤ 108) = false := decide_eq_false (by omega)
    have hge := hE (by omega)
    obtain ⟨sa, oa, ca, rfl, hsa, hxa⟩ := own_at howna2 (by omega)
    obtain ⟨cura, rfl, hBa, _, hca1, hca2, _, _⟩ := own_blk howna2
    have hsaL : sa ≠ L := own_ne howna2 hL2 (by decide) rfl
    have hsaR : sa ≠ R := own_ne howna2 hR2 (by decide) rfl
    have hsaw := hW10.apart howna2 sa rfl
    have hca3 : ca ≤ 9223372036854775807 := by unfold maxLen at hca2; omega
    have Hxa := Lib.hid hxa
    clear hxa hBa
    go_wp2_with (first
      | (go_at_call 154; go_loud (refine (half_w all _ w10 (Sl.own howna2) hOa (by omega) hla2).mono ?_; rintro e w11 ⟨k, rfl, hH, hC11b⟩)))
    obtain ⟨y, hy⟩ : ∃ y, all[k]? = some y := ⟨_, List.getElem?_eq_getElem hH.lt⟩
    obtain ⟨hgL, hgR⟩ := hge k y hH hy
    have hHalf := Lib.hid hH
    have hk1 := hH.pos
    have hk2 := hH.lt
    obtain ⟨g3, g4⟩ := prs_get all k y hy
    have dk : w11.cell? ⟨sa, k * 2, none⟩ = some (.string y.1) := by
      have := Hxa.out (k * 2) (by omega)
      rw [Nat.zero_add, g3] at this
      rw [hC11b.cell hsa (by simp)]
      exact this
    have hsa11 : sa < w11.heap.size := Nat.lt_of_lt_of_le hsa hC11b.size
    have hL11 := hL2.ext hC11b
    have hR11 := hR2.ext hC11b
    have howna11 := own_ext howna2 hC11b
    have hW11 := hW10.chg hC11b (by simp)
    have hup11 := own_ext hup10 hC11b
    have hCC11 := hCC.nil hC11b
    have hs11 := hC11b.size
    have hkb1 : (k : Int) < (all.length : Int) := by omega
    have hkb2 : ¬ (ca = k) := by omega
    have hkb3 : (k : Int) ≤ (ca : Int) := by omega
    have hkb4 : k ≤ ca := by omega
    have hkb5 : (k : Int) ≤ (all.length : Int) := by omega
    have hkb6 : k ≤ all.length := by omega
    clear hH hC11b hL2 hR2 howna2 hup10 hCC hge g3 g4
    try simp only [Act.put, List.setIfInBounds_toArray, List.set_cons_zero, List.set_cons_succ]
    go_cut [] (fun wx => Blk wx L 199 (partA pl { gl with high := y.1, l := all.take k } (.slice (some ⟨sa, 0, none⟩) k ca)) ∧ Chg [L] w11 wx)
    case first =>
      have hS28 : ∀ W, Chg [L] w11 W → W.cell? ⟨sa, k * 2, none⟩ = some (.string y.1) ∧ Chg [L] w11 W := fun W i3 => ⟨by rw [i3.cell hsa11 (by simpa using hsaL)]; exact dk, i3⟩
      refine wp_region_held_drew (S := fun W => W.cell? ⟨sa, k * 2, none⟩ = some (.string y.1) ∧ Chg [L] w11 W) (by kernel_rfl) (hS28 _ ((Chg.refl _ w11).drew)) (fun hH => ?_)
      refine wpAnyH_take (i := 0) (v := .slice (some ⟨sa, 0, none⟩) all.length ca) rfl (by kernel_rfl) (by kernel_rfl) (by kernel_rfl) (fun _ _ _ h => h) (Or.inl ⟨by rfl, fun w' hw' => by go_simp⟩) hH ?_
      try simp only [List.getElem_toArray, List.getElem_cons_succ, List.getElem_cons_zero, Act.put, List.setIfInBounds_toArray, List.set_cons_zero, List.set_cons_succ]
      refine wpAnyH_take (i := 1) (v := .int .i64 k) rfl (by kernel_rfl) (by kernel_rfl) (by kernel_rfl) (fun _ _ _ h => h) (Or.inl ⟨by rfl, fun w' hw' => by go_simp⟩) hH ?_
      try simp only [List.getElem_toArray, List.getElem_cons_succ, List.getElem_cons_zero, Act.put, List.setIfInBounds_toArray, List.set_cons_zero, List.set_cons_succ]
      refine wpAnyH_take (i := 2) (v := .pointer (some ⟨sa, k * 2, none⟩)) rfl (by kernel_rfl) (by kernel_rfl) (by kernel_rfl) (fun _ _ _ h => h) (Or.inl ⟨by rfl, fun w' hw' => by go_simp⟩) hH ?_
      try simp only [List.getElem_toArray, List.getElem_cons_succ, List.getElem_cons_zero, Act.put, List.setIfInBounds_toArray, List.set_cons_zero, List.set_cons_succ]
      refine wpAnyH_take (i := 3) (v := .pointer (some ⟨sa, k * 2, none⟩)) rfl (by kernel_rfl) (by kernel_rfl) (by kernel_rfl) (fun _ _ _ h => h) (Or.inl ⟨by rfl, fun w' hw' => by go_simp⟩) hH ?_
      try simp only [List.getElem_toArray, List.getElem_cons_succ, List.getElem_cons_zero, Act.put, List.setIfInBounds_toArray, List.set_cons_zero, List.set_cons_succ]
      refine wpAnyH_take (i := 4) (v := .string y.1) rfl (by kernel_rfl) (by kernel_rfl) (by kernel_rfl) (fun _ _ _ h => h) (yieldsIf_load_cell (by rfl) 9 _ rfl (sa) (k * 2) rfl _ (fun w' hw' => hw'.1) (fun w => Tryz.isAgg9 w)) hH ?_
      try simp only [List.getElem_toArray, List.getElem_cons_succ, List.getElem_cons_zero, Act.put, List.setIfInBounds_toArray, List.set_cons_zero, List.set_cons_succ]
      refine wpAnyH_take (i := 5) (v := .slice (some ⟨sa, 0, none⟩) all.length ca) rfl (by kernel_rfl) (by kernel_rfl) (by kernel_rfl) (fun _ _ _ h => h) (Or.inl ⟨by rfl, fun w' hw' => by go_simp⟩) hH ?_
      try simp only [List.getElem_toArray, List.getElem_cons_succ, List.getElem_cons_zero, Act.put, List.setIfInBounds_toArray, List.set_cons_zero, List.set_cons_succ]
      refine wpAnyH_take (i := 6) (v := .int .i64 k) rfl (by kernel_rfl) (by kernel_rfl) (by kernel_rfl) (fun _ _ _ h => h) (Or.inl ⟨by rfl, fun w' hw' => by go_simp⟩) hH ?_
      try simp only [List.getElem_toArray, List.getElem_cons_succ, List.getElem_cons_zero, Act.put, List.setIfInBounds_toArray, List.set_cons_zero, List.set_cons_succ]
      refine wpAnyH_take (i := 7) (v := .slice (some ⟨sa, 0, none⟩) k ca) rfl (by kernel_rfl) (by kernel_rfl) (by kernel_rfl) (fun _ _ _ h => h) (Or.inl ⟨by rfl, fun w' hw' => by go_simp⟩) hH ?_
      try simp only [List.getElem_toArray, List.getElem_cons_succ, List.getElem_cons_zero, Act.put, List.setIfInBounds_toArray, List.set_cons_zero, List.set_cons_succ]
      refine wpAnyH_take (i := 8) (v := .pointer (some ⟨L, 3, none⟩)) rfl (by kernel_rfl) (by kernel_rfl) (by kernel_rfl) (fun _ _ _ h => h) (Or.inl ⟨by rfl, fun w' hw' => by go_simp⟩) hH ?_
      try simp only [List.getElem_toArray, List.getElem_cons_succ, List.getElem_cons_zero, Act.put, List.setIfInBounds_toArray, List.set_cons_zero, List.set_cons_succ]
      refine wpAnyH_ready (rs := [9]) (by kernel_rfl) (by simp) ?_
      refine AllReadyH.cons rfl (fun K hK => ?_) AllReadyH.nil
      rw [if_pos (by rfl)]
      refine op_store_one 9 _ _ rfl (L) (3) rfl (.string y.1) rfl 199 (_) hL11.drew (by simp [partA]) (by kernel_rfl) rfl ?_
      intro W12 hC12 hsW12 hBW12
      refine hK.out _ _ (hS28 _ (((Chg.refl _ w11).drew).trans hC12)) (fun hH => ?_)
      clear hK K
      try simp only [List.getElem_toArray, List.getElem_cons_succ, List.getElem_cons_zero, Act.put, List.setIfInBounds_toArray, List.set_cons_zero, List.set_cons_succ]
      refine wpAnyH_take (i := 10) (v := .pointer (some ⟨L, 5, none⟩)) rfl (by kernel_rfl) (by kernel_rfl) (by kernel_rfl) (fun _ _ _ h => h) (Or.inl ⟨by rfl, fun w' hw' => by go_simp⟩) hH ?_
      try simp only [List.getElem_toArray, List.getElem_cons_succ, List.getElem_cons_zero, Act.put, List.setIfInBounds_toArray, List.set_cons_zero, List.set_cons_succ]
      refine wpAnyH_ready (rs := [11]) (by kernel_rfl) (by simp) ?_
      refine AllReadyH.cons rfl (fun K hK => ?_) AllReadyH.nil
      rw [if_pos (by rfl)]
      refine op_store_one 94 _ _ rfl (L) (5) rfl (.slice (some ⟨sa, 0, none⟩) k ca) rfl 199 (_) hBW12 (by simp [partA]) (by kernel_rfl) rfl ?_
      intro W13 hC13 hsW13 hBW13
      refine hK.out _ _ (hS28 _ ((((Chg.refl _ w11).drew).trans hC12).trans hC13)) (fun hH => ?_)
      clear hK K
      try simp only [List.getElem_toArray, List.getElem_cons_succ, List.getElem_cons_zero, Act.put, List.setIfInBounds_toArray, List.set_cons_zero, List.set_cons_succ]
      refine wpAnyH_done (by kernel_rfl) ?_ _
      go_wp2_with fail
      go_meet
      exact ⟨hBW13, (((Chg.refl _ w11).drew).trans hC12).trans hC13⟩
    case rest =>
      obtain ⟨hL12, hC12⟩ := hcut
      obtain ⟨W12, hW12e⟩ : ∃ W12, W12 = wc := ⟨_, rfl⟩
      rw [← hW12e] at hL12 hC12 ⊢
      have hR12 := hR11.chg hC12 (by simpa using hLR.symm)
      have dk12 : W12.cell? ⟨sa, k * 2, none⟩ = some (.string y.1) := by rw [hC12.cell hsa11 (by simpa using hsaL)]; exact dk
      have hsa12 : sa < W12.heap.size := Nat.lt_of_lt_of_le hsa11 hC12.size
      clear hW12e
      go_wp2_with fail
      try simp only [Act.put, List.setIfInBounds_toArray, List.set_cons_zero, List.set_cons_succ]
      go_cut [] (fun wx => Blk wx R 199 (partA pr { gr with low := y.1, l := all.drop k } (.slice (some ⟨sa, k * 2, none⟩) (all.length - k) (ca - k))) ∧ Chg [R] W12 wx)
      case first =>
        have hS29 : ∀ W, Chg [R] W12 W → W.cell? ⟨sa, k * 2, none⟩ = some (.string y.1) ∧ Chg [R] W12 W := fun W i3 => ⟨by rw [i3.cell hsa12 (by simpa using hsaR)]; exact dk12, i3⟩
        refine wp_region_held_drew (S := fun W => W.cell? ⟨sa, k * 2, none⟩ = some (.string y.1) ∧ Chg [R] W12 W) (by kernel_rfl) (hS29 _ ((Chg.refl _ W12).drew)) (fun hH => ?_)
        refine wpAnyH_take (i := 0) (v := .slice (some ⟨sa, 0, none⟩) all.length ca) rfl (by kernel_rfl) (by kernel_rfl) (by kernel_rfl) (fun _ _ _ h => h) (Or.inl ⟨by rfl, fun w' hw' => by go_simp⟩) hH ?_
        try simp only [List.getElem_toArray, List.getElem_cons_succ, List.getElem_cons_zero, Act.put, List.setIfInBounds_toArray, List.set_cons_zero, List.set_cons_succ]
        refine wpAnyH_take (i := 1) (v := .int .i64 k) rfl (by kernel_rfl) (by kernel_rfl) (by kernel_rfl) (fun _ _ _ h => h) (Or.inl ⟨by rfl, fun w' hw' => by go_simp⟩) hH ?_
        try simp only [List.getElem_toArray, List.getElem_cons_succ, List.getElem_cons_zero, Act.put, List.setIfInBounds_toArray, List.set_cons_zero, List.set_cons_succ]
        refine wpAnyH_take (i := 2) (v := .pointer (some ⟨sa, k * 2, none⟩)) rfl (by kernel_rfl) (by kernel_rfl) (by kernel_rfl) (fun _ _ _ h => h) (Or.inl ⟨by rfl, fun w' hw' => by go_simp⟩) hH ?_
        try simp only [List.getElem_toArray, List.getElem_cons_succ, List.getElem_cons_zero, Act.put, List.setIfInBounds_toArray, List.set_cons_zero, List.set_cons_succ]
        refine wpAnyH_take (i := 3) (v := .pointer (some ⟨sa, k * 2, none⟩)) rfl (by kernel_rfl) (by kernel_rfl) (by kernel_rfl) (fun _ _ _ h => h) (Or.inl ⟨by rfl, fun w' hw' => by go_simp⟩) hH ?_
        try simp only [List.getElem_toArray, List.getElem_cons_succ, List.getElem_cons_zero, Act.put, List.setIfInBounds_toArray, List.set_cons_zero, List.set_cons_succ]
        refine wpAnyH_take (i := 4) (v := .string y.1) rfl (by kernel_rfl) (by kernel_rfl) (by kernel_rfl) (fun _ _ _ h => h) (yieldsIf_load_cell (by rfl) 9 _ rfl (sa) (k * 2) rfl _ (fun w' hw' => hw'.1) (fun w => Tryz.isAgg9 w)) hH ?_
        try simp only [List.getElem_toArray, List.getElem_cons_succ, List.getElem_cons_zero, Act.put, List.setIfInBounds_toArray, List.set_cons_zero, List.set_cons_succ]
        refine wpAnyH_take (i := 5) (v := .slice (some ⟨sa, 0, none⟩) all.length ca) rfl (by kernel_rfl) (by kernel_rfl) (by kernel_rfl) (fun _ _ _ h => h) (Or.inl ⟨by rfl, fun w' hw' => by go_simp⟩) hH ?_
        try simp only [List.getElem_toArray, List.getElem_cons_succ, List.getElem_cons_zero, Act.put, List.setIfInBounds_toArray, List.set_cons_zero, List.set_cons_succ]
        refine wpAnyH_take (i := 6) (v := .int .i64 k) rfl (by kernel_rfl) (by kernel_rfl) (by kernel_rfl) (fun _ _ _ h => h) (Or.inl ⟨by rfl, fun w' hw' => by go_simp⟩) hH ?_
        try simp only [List.getElem_toArray, List.getElem_cons_succ, List.getElem_cons_zero, Act.put, List.setIfInBounds_toArray, List.set_cons_zero, List.set_cons_succ]
        refine wpAnyH_take (i := 7) (v := .slice (some ⟨sa, k * 2, none⟩) (all.length - k) (ca - k)) rfl (by kernel_rfl) (by kernel_rfl) (by kernel_rfl) (fun _ _ _ h => h) (Or.inl ⟨by rfl, fun w' hw' => by go_simp⟩) hH ?_
        try simp only [List.getElem_toArray, List.getElem_cons_succ, List.getElem_cons_zero, Act.put, List.setIfInBounds_toArray, List.set_cons_zero, List.set_cons_succ]
        refine wpAnyH_take (i := 8) (v := .pointer (some ⟨R, 2, none⟩)) rfl (by kernel_rfl) (by kernel_rfl) (by kernel_rfl) (fun _ _ _ h => h) (Or.inl ⟨by rfl, fun w' hw' => by go_simp⟩) hH ?_
        try simp only [List.getElem_toArray, List.getElem_cons_succ, List.getElem_cons_zero, Act.put, List.setIfInBounds_toArray, List.set_cons_zero, List.set_cons_succ]
        refine wpAnyH_ready (rs := [9]) (by kernel_rfl) (by simp) ?_
        refine AllReadyH.cons rfl (fun K hK => ?_) AllReadyH.nil
        rw [if_pos (by rfl)]
        refine op_store_one 9 _ _ rfl (R) (2) rfl (.string y.1) rfl 199 (_) hR12.drew (by simp [partA]) (by kernel_rfl) rfl ?_
        intro W13 hC13 hsW13 hBW13
        refine hK.out _ _ (hS29 _ (((Chg.refl _ W12).drew).trans hC13)) (fun hH => ?_)
        clear hK K
        try simp only [List.getElem_toArray, List.getElem_cons_succ, List.getElem_cons_zero, Act.put, List.setIfInBounds_toArray, List.set_cons_zero, List.set_cons_succ]
        refine wpAnyH_take (i := 10) (v := .pointer (some ⟨R, 5, none⟩)) rfl (by kernel_rfl) (by kernel_rfl) (by kernel_rfl) (fun _ _ _ h => h) (Or.inl ⟨by rfl, fun w' hw' => by go_simp⟩) hH ?_
        try simp only [List.getElem_toArray, List.getElem_cons_succ, List.getElem_cons_zero, Act.put, List.setIfInBounds_toArray, List.set_cons_zero, List.set_cons_succ]
        refine wpAnyH_ready (rs := [11]) (by kernel_rfl) (by simp) ?_
        refine AllReadyH.cons rfl (fun K hK => ?_) AllReadyH.nil
        rw [if_pos (by rfl)]
        refine op_store_one 94 _ _ rfl (R) (5) rfl (.slice (some ⟨sa, k * 2, none⟩) (all.length - k) (ca - k)) rfl 199 (_) hBW13 (by simp [partA]) (by kernel_rfl) rfl ?_
        intro W14 hC14 hsW14 hBW14
        refine hK.out _ _ (hS29 _ ((((Chg.refl _ W12).drew).trans hC13).trans hC14)) (fun hH => ?_)
        clear hK K
        try simp only [List.getElem_toArray, List.getElem_cons_succ, List.getElem_cons_zero, Act.put, List.setIfInBounds_toArray, List.set_cons_zero, List.set_cons_succ]
        refine wpAnyH_done (by kernel_rfl) ?_ _
        go_wp2_with fail
        go_meet
        exact ⟨hBW14, (((Chg.refl _ W12).drew).trans hC13).trans hC14⟩
      case rest =>
        obtain ⟨hR13, hC13⟩ := hcut
        obtain ⟨W13, hW13e⟩ : ∃ W13, W13 = wc := ⟨_, rfl⟩
        rw [← hW13e] at hR13 hC13 ⊢
        clear hW13e
        have hCLR : Chg [L, R] w11 W13 := (hC12.mono (by simp)).trans (hC13.mono (by simp))
        have hL13 := hL12.chg hC13 (by simpa using hLR)
        have hW13 := hW11.chg hCLR (fun i hi => by simp at hi; rcases hi with h | h <;> omega)
        have howna13 := own_chg howna11 hCLR (fun q hq => by injection hq with hq; subst hq; simp; exact ⟨hsaL, hsaR⟩)
        have hup13 := own_chg hup11 hCLR (fun q hq => by have := (hup.lt q hq).2; simp; omega)
        have hCC13 : Chg [wb] w W13 := hCC11.on hCLR (fun i hi => .inr (by simp at hi; rcases hi with h | h <;> omega))
        have hSa := Sl.own howna13
        have hSaL := Sl.take hSa hkb6
        have hSaR := Sl.drop hSa hk2
        rw [Nat.zero_add] at hSaR
        have dk13 : W13.cell? ⟨sa, k * 2, none⟩ = some (.string y.1) := by rw [hC13.cell hsa12 (by simpa using hsaR)]; exact dk12
        have hsa13 : sa < W13.heap.size := Nat.lt_of_lt_of_le hsa12 hC13.size
        have hsan : sa ∉ [wb, bw] := by simp; exact ⟨hsaw.1, hsaw.2.2.2⟩
        have hsun : su ∉ [wb, bw] := by have := hap su rfl; simp; exact ⟨this.1, this.2.2.2⟩
        clear dk dk12 hR12 hR11 hL12 hL11
        go_wp2_with (first
          | (refine wpList_load_row rfl 199 (.tmp 17) rfl L rfl 199 (partA pl { gl with high := y.1, l := all.take k } (.slice (some ⟨sa, 0, none⟩) k ca)) (0, 0) _ hL13 Tryz.underlying199 rfl (by kernel_rfl) ?_)
          | (refine wpList_load_row rfl 199 (.tmp 18) rfl R rfl 199 (partA pr { gr with low := y.1, l := all.drop k } (.slice (some ⟨sa, k * 2, none⟩) (all.length - k) (ca - k))) (0, 0) _ hR14 Tryz.underlying199 rfl (by kernel_rfl) ?_)
          | (go_at_call 151; have _h0 := hR14; go_loud (refine (twrite_w wb ba bm bw fr rt _ pr { gr with low := y.1, l := all.drop k } (.slice (some ⟨sa, k * 2, none⟩) (all.length - k) (ca - k)) _ hW14 (hSaR.chg hC14 (fun q hq => by injection hq with hq; subst hq; exact hsan)) (fun q hq => by injection hq with hq; subst hq; exact Nat.lt_of_lt_of_le hsa13 hC14.size) hgR hpr0 hpr1 (by unfold usedB upd; rw [if_neg hplr.symm]; exact hpru) hr).mono ?_; rintro e w15 ⟨pgR, rfl, hPR, hW15, hC15⟩; have dk15 : w15.cell? ⟨sa, k * 2, none⟩ = some (.string y.1) := (by rw [hC15.cell (Nat.lt_of_lt_of_le hsa13 hC14.size) hsan, hC14.cell hsa13 hsan]; exact dk13); have hup15 := own_chg (own_chg hup13 hC14 (fun q hq => by injection hq with hq; subst hq; exact hsun)) hC15 (fun q hq => by injection hq with hq; subst hq; exact hsun); obtain ⟨curu, _, hBu, hu1, hu2, hu3, hu4, hu5⟩ := own_blk hup15))
          | (go_at_call 151; have _h0 := hL13; go_loud (refine (twrite_w wb ba bm bw fr rt pgs pl { gl with high := y.1, l := all.take k } (.slice (some ⟨sa, 0, none⟩) k ca) _ hW13 hSaL (fun q hq => by injection hq with hq; subst hq; exact hsa13) hgL hpl0 hpl1 hplu hr).mono ?_; rintro e w14 ⟨pgL, rfl, hPL, hW14, hC14⟩; have hR14 := hR13.chg hC14 hRn; clear hL13))
          | (refine wpList_store_one rfl 9 (.tmp 175) (.tmp 173) rfl su (sec * 2) rfl (.string y.1) rfl 93 curu hBu (by omega) (by kernel_rfl) rfl ?_; intro w16 hC16 hs16 hB16))
        go_ret
        have hall := Hall.out
        obtain ⟨x, hx⟩ : ∃ x, up[sec]? = some x := ⟨_, List.getElem?_eq_getElem hsl⟩
        right
        refine ⟨by rw [← hall]; omega, k, y, pgL, pgR, x, rfl, hall ▸ hHalf.out, hall ▸ hy, hall ▸ hPL, hall ▸ hPR, hW15.chg hC16 (fun i hi => ?_), hx, ?_, ?_⟩
        · have := hap su rfl
          simp at hi
          subst hi
          exact this
        · refine ⟨by rw [prs_len, List.length_set], .inr ⟨su, cu, _, rfl, hu1, hB16, hu2, hu3, by rw [Array.size_setIfInBounds, hu4], ?_⟩⟩
          rw [Array.toList_setIfInBounds, List.take_set, hu5]
          exact prs_set_key up sec x y.1 hx
        · have : Chg [wb, su] w w16 → Chg (wb :: bw :: (Value.slice (some ⟨su, 0, none⟩) up.length cu).ownBlock.toList) w w16 := fun h => h.mono (by intro i hi; simp [Value.ownBlock] at hi ⊢; rcases hi with h | h <;> simp [h])
          exact (((hCC13.mono (by simp)).trans (hC14.mono (by simp))).trans (hC15.mono (by simp))).trans (hC16.mono (by intro i hi; simp [Value.ownBlock] at hi ⊢; simp [hi]))

end Go.Proofs.YtpcaadipejnllaaGreatDoor
