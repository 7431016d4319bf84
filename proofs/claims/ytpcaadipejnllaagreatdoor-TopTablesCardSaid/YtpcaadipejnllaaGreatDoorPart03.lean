/- The words of a page: fences and entries. -/
import Derived.Test.YtpcaadipejnllaaGreatDoorPart02
import Derived.Laws.CopyOwn
import Derived.Lib.SliceRun

set_option linter.unusedVariables false
set_option linter.unusedSimpArgs false
namespace Go.Proofs.YtpcaadipejnllaaGreatDoor
open Go.RowKit

theorem words_v (n : Int) (w : World) (h0 : 0 ≤ n) (h1 : n ≤ 1000) :
    Calls Tryz.prog 136 #[.int .i64 n] w fun e w' => e = .returned (.int .i64 (nw n.toNat)) ∧ w' = w := by
  refine (words_w n w h0 h1).mono ?_
  rintro e w1 ⟨rfl, rfl⟩
  exact ⟨rfl, rfl⟩

theorem wrap_nat (n : Nat) (h : n ≤ 100000000) : IntKind.i64.wrap ((n : Nat) : Int) = n := by
  rw [IntKind.wrap_i64]
  omega
theorem and255 (n : Nat) (h : n < 18446744073709551616) : bits .and .u64 (n : Int) 255 = ((n % 256 : Nat) : Int) := by
  have := u64_and_nat n 255 h (by decide)
  rw [show ((255 : Nat) : Int) = 255 from rfl] at this
  rw [this, Nat.and_two_pow_sub_one_eq_mod n 8]

/-- The word of an entry. -/
def dirW (a k v : Nat) : Nat := a * 65536 + k * 256 + v
theorem dirW_at {a k v : Nat} (hk : k < 256) (hv : v < 256) : dirW a k v / 65536 = a := by unfold dirW; omega
theorem dirW_key {a k v : Nat} (hk : k < 256) (hv : v < 256) : dirW a k v / 256 % 256 = k := by unfold dirW; omega
theorem dirW_val {a k v : Nat} (hk : k < 256) (hv : v < 256) : dirW a k v % 256 = v := by unfold dirW; omega
theorem dirW_lt {a k v : Nat} (ha : a ≤ 128) (hk : k < 256) (hv : v < 256) : dirW a k v < 16777216 := by unfold dirW; omega

def entA (a k v : Nat) : Array Value := #[.int .i64 a, .int .i64 (a + nw k : Nat), .int .i64 (a + nw k + nw v : Nat), .int .i64 k, .int .i64 v]

set_option maxRecDepth 100000 in
set_option maxHeartbeats 1000000 in
theorem entry_w (a k v : Nat) (w : World) (ha : a ≤ 128) (hk : k < 256) (hv : v < 256) :
    Calls Tryz.prog 139 #[.int .u64 (dirW a k v)] w fun e w' => e = .returned (.agg (entA a k v)) ∧ Chg [] w w' := by
  have hl := dirW_lt ha hk hv
  have h1 := dirW_at (a := a) hk hv
  have h2 := dirW_key (a := a) hk hv
  have h3 := dirW_val (a := a) hk hv
  obtain ⟨W, hW⟩ : ∃ W, dirW a k v = W := ⟨_, rfl⟩
  rw [hW] at hl h1 h2 h3 ⊢
  have h4 := and255 W (by omega)
  have h5 := and255 (W / 256) (by omega)
  rw [h3] at h4
  rw [h2] at h5
  have h6 : (W : Int) / 65536 = (a : Int) := by omega
  have h7 : ((W / 256 : Nat) : Int) = (W : Int) / 256 := by omega
  rw [h7] at h5
  have hnk : nw k ≤ 32 := nw_le (by omega)
  have hnv : nw v ≤ 32 := nw_le (by omega)
  go_enter Tryz.func139, Tryz.ntmps139
  go_wp2
  refine wp_world (fun W => Chg [] w W ∧ Blk W w.heap.size 231 #[.int .i64 0, .int .i64 0, .int .i64 0, .int .i64 0, .int .i64 0] ∧ Blk W (w.heap.size + 1) 231 #[.int .i64 a, .int .i64 0, .int .i64 0, .int .i64 k, .int .i64 v]) ⟨((Chg.refl _ _).alloc _).alloc _, (Blk.new _ _ _).alloc _, Blk.newEq (by simp)⟩ ?_
  rintro W1 ⟨hC1, hA1, hB1⟩
  have c0 := hB1.cell 0
  have c1 := hB1.cell 1
  have f1 := hB1.frozen 1
  have c3 := hB1.cell 3
  simp only [List.getElem?_toArray, List.getElem?_cons_zero, List.getElem?_cons_succ] at c0 c1 c3
  refine wp_region_tail 6 (by kernel_rfl) (by kernel_rfl) ?_
  simp only [List.take_succ_cons, List.take_zero, List.drop_succ_cons, List.drop_zero]
  repeat (first | still_step | still_call (words_v _ _ (by omega) (by omega)))
  refine wpStill_nil ?_
  simp only [Int.toNat_natCast, wrap_nat (a + nw k) (by omega), ← Int.natCast_add]
  go_wp2
  refine wp_world (fun W => Chg [] w W ∧ Blk W w.heap.size 231 #[.int .i64 0, .int .i64 0, .int .i64 0, .int .i64 0, .int .i64 0] ∧ Blk W (w.heap.size + 1) 231 #[.int .i64 a, .int .i64 (a + nw k : Nat), .int .i64 0, .int .i64 k, .int .i64 v]) ⟨(hC1.drew).set _ (.inr (by simp)) _, (hA1.drew).far (by simp) _, (hB1.drew).setEq rfl⟩ ?_
  rintro W2 ⟨hC2, hA2, hB2⟩
  clear c0 c1 f1 c3
  have c1 := hB2.cell 1
  have c2 := hB2.cell 2
  have f2 := hB2.frozen 2
  have c4 := hB2.cell 4
  simp only [List.getElem?_toArray, List.getElem?_cons_zero, List.getElem?_cons_succ] at c1 c2 c4
  refine wp_region_tail 6 (by kernel_rfl) (by kernel_rfl) ?_
  simp only [List.take_succ_cons, List.take_zero, List.drop_succ_cons, List.drop_zero]
  repeat (first | still_step | still_call (words_v _ _ (by omega) (by omega)))
  refine wpStill_nil ?_
  simp only [Int.toNat_natCast, wrap_nat (a + nw k + nw v) (by omega), ← Int.natCast_add]
  go_wp2_with (first
    | (refine wpList_world (fun W => Chg [] w W ∧ Blk W w.heap.size 231 #[.int .i64 0, .int .i64 0, .int .i64 0, .int .i64 0, .int .i64 0] ∧ Blk W (w.heap.size + 1) 231 (entA a k v)) ⟨(hC2.drew).set _ (.inr (by simp)) _, (hA2.drew).far (by simp) _, (hB2.drew).setEq rfl⟩ ?_; rintro W3 ⟨hC3, hA3, hB3⟩; refine wpList_load_row rfl 231 (.tmp 3) rfl (w.heap.size + 1) rfl 231 (entA a k v) (0, 0) _ hB3 Tryz.underlying231 rfl (by kernel_rfl) ?_)
    | (refine wpList_store_blk rfl 231 (.tmp 2) (.tmp 29) rfl w.heap.size rfl (entA a k v) rfl 231 _ hA3 (by kernel_rfl) rfl (by simp [entA, Value.oneCell']) ?_; intro w4 hC4 hs4 hB4))
  exact bodyPost_ret (res_row rfl _ hB4 rfl Tryz.underlying231 rfl (by kernel_rfl)) rfl ⟨rfl, hC3.on hC4 (by simp)⟩

theorem pk_zero (s : ByteArray) (i : Nat) (h : s.size ≤ 8 * i) : pk s i = 0 := by
  unfold pk
  simp [pkUp, byteAt_out s (j := 8 * i) (by omega), byteAt_out s (j := 8 * i + 1) (by omega), byteAt_out s (j := 8 * i + 2) (by omega), byteAt_out s (j := 8 * i + 3) (by omega), byteAt_out s (j := 8 * i + 4) (by omega), byteAt_out s (j := 8 * i + 5) (by omega), byteAt_out s (j := 8 * i + 6) (by omega), byteAt_out s (j := 8 * i + 7) (by omega)]

/-- Words of a block are those of a list. -/
theorem Sl.words {w : World} {b o n c : Nat} {pg l : List Nat} (h : Blk w b 72 (nums pg)) (hl : l.length = n) (hf : o + n ≤ pg.length) (hn : n ≤ c) (hc : c ≤ 1000) (hw : ∀ i, i < n → wd pg (o + i) = wd l i) :
    Sl w 1 (.slice (some ⟨b, o, none⟩) n c) n (nums l).toList := by
  refine ⟨by rw [Array.length_toList, nums_size, hl, Nat.mul_one], some ⟨b, o, none⟩, c, rfl, hn, by unfold maxLen; omega, .inr ⟨b, o, rfl, h.lt, fun j hj => ?_⟩⟩
  rw [Nat.mul_one] at hj
  rw [h.cell, nums_get (by omega), nums_cell _ _ (by omega), hw j hj]

/-- A fence of a page. -/
structure FenceAt (pg : List Nat) (a : Nat) (s : ByteArray) : Prop where
  size : s.size ≤ 24
  len : wd pg a = (s.size : Int)
  wds : ∀ i, i < 3 → wd pg (a + 1 + i) = (pk s i : Int)

theorem nums_cellI {w : World} {b : Nat} {pg : List Nat} (h : Blk w b 72 (nums pg)) (i : Nat) (hi : i < pg.length) : w.cell? ⟨b, i, none⟩ = some (.int .u64 (wd pg i)) := by
  rw [h.cell, nums_get hi]

theorem al72 : Tryz.prog.arrayLen 72 = 128 := by kernel_rfl
theorem el72 : Tryz.prog.elem 72 = 60 := by kernel_rfl
theorem un72 : Tryz.prog.underlying 72 = some (.array (Tryz.prog.arrayLen 72) (Tryz.prog.elem 72)) := by kernel_rfl
theorem sz60 (w : World) : (Go.sizeOf 60).run Tryz.prog w = .ok 1 w := by
  obtain ⟨i0, hi, hz0, hz1, hz2⟩ := info_parts info60
  rw [run_sizeOf w hi, show Tryz.prog.cellsOf 60 = 1 by kernel_rfl]
theorem slice72 (w : World) (b : Nat) (li hi : Int) (l h : Nat) (el : li = l) (eh : hi = h) (h1 : l ≤ h) (h2 : h ≤ 128) (h3 : l < 128) :
    (Instr.sliceAt 72 (.pointer (some ⟨b, 0, none⟩)) (some (.int .i64 li)) (some (.int .i64 hi)) none).run Tryz.prog w = .ok (.slice (some ⟨b, l, none⟩) (h - l) (128 - l)) w := by
  subst el eh
  rw [run_sliceAt_array_lh w 72 ⟨b, 0, none⟩ un72 .i64 .i64 _ _ (by omega) (by omega) (by rw [al72]; omega), el72, sz60, al72]
  simp only [Result.andThen, slicedAt, Int.toNat_natCast, Nat.mul_one]
  rw [if_neg (by omega), add_mk, Nat.zero_add]

set_option maxRecDepth 100000 in
set_option maxHeartbeats 1000000 in
theorem fence_w (b a : Nat) (pg : List Nat) (s : ByteArray) (w : World) (h : Blk w b 72 (nums pg)) (hl : pg.length = 128) (ha : a ≤ 16) (hF : FenceAt pg a s) :
    Calls Tryz.prog 169 #[.pointer (some ⟨b, 0, none⟩), .int .i64 a] w fun e w' => e = .returned (.tuple #[.string s, .int .i64 0]) ∧ Chg [] w w' := by
  have hs := hF.size
  have hn : nw s.size ≤ 3 := nw_le (by omega)
  have c0 := nums_cellI h a (by omega)
  rw [hF.len] at c0
  have hS : ∀ c, nw s.size ≤ c → c ≤ 1000 → Sl w 1 (.slice (some ⟨b, a + 1, none⟩) (nw s.size) c) (nw s.size) (nums (packW s)).toList := fun c h1 h2 =>
    Sl.words h (packW_len s) (by omega) h1 h2 (fun i hi => by rw [hF.wds i (by omega)]; exact (packUp_wd s _ i hi).symm)
  have q1 := slice72 w b (a + 1 + nw s.size) (a + 4) (a + 1 + nw s.size) (a + 4) (by omega) (by omega) (by omega) (by omega) (by omega)
  have q2 := slice72 w b (a + 1) (a + 1 + nw s.size) (a + 1) (a + 1 + nw s.size) (by omega) (by omega) (by omega) (by omega) (by omega)
  go_enter Tryz.func169, Tryz.ntmps169
  go_wp2_with (first
    | (go_at_call 136; refine (words_w _ _ (by omega) (by omega)).mono ?_; rintro e w1 ⟨rfl, rfl⟩; rw [Int.toNat_natCast]))
  go_loop [34] (fun i => ∃ j : Nat, j ≤ 3 - nw s.size ∧ i = .int .i64 j) (fun i => 3 - nw s.size - (intOf i).toNat)
  case atStart => exact ⟨0, by omega, rfl⟩
  case round =>
    obtain ⟨j, hj, rfl⟩ := hrel
    by_cases hlt : j < 3 - nw s.size
    · have hz := pk_zero s (nw s.size + j) (by unfold nw; omega)
      have cz := nums_cellI h (a + 1 + nw s.size + j) (by omega)
      rw [show a + 1 + nw s.size + j = a + 1 + (nw s.size + j) by omega, hF.wds _ (by omega), hz, show a + 1 + (nw s.size + j) = a + 1 + nw s.size + j by omega] at cz
      go_wp2
      go_round
      case rel => exact ⟨j + 1, by omega, by go_num⟩
      case measure => simp [intOf]; omega
    · go_wp2_with (go_at_call 170; refine (unpack_w s _ _ (by omega) (hS _ (by omega) (by omega))).mono ?_; rintro e w1 ⟨rfl, hC⟩)
      go_ret2
      exact ⟨rfl, hC⟩

end Go.Proofs.YtpcaadipejnllaaGreatDoor

/- Words of a page that are written, copied, read. -/
set_option linter.unusedVariables false
set_option linter.unusedSimpArgs false
namespace Go.Proofs.YtpcaadipejnllaaGreatDoor
open Go.RowKit

theorem add_zero (p : Addr) : p.add 0 = p := by unfold Addr.add; rw [if_pos rfl]
theorem nums_set (l : List Nat) (i n : Nat) : (nums l).setIfInBounds i (.int .u64 (n : Int)) = nums (l.set i n) := by simp [nums]
theorem run_store60 (w : World) (g i : Nat) (z : Int) (pg : List Nat) (hB : Blk w g 72 (nums pg)) (hi : i < pg.length) :
    (Instr.storeAt 60 (.pointer (some ⟨g, i, none⟩)) (.int .u64 z)).run Tryz.prog w = .ok () (w.setCell ⟨g, i, none⟩ (.int .u64 z)) := by
  obtain ⟨i0, hq, hz0, hz1, hz2⟩ := info_parts info60
  have hc := hB.num i hi
  have hf := hB.frozen i
  have hs := run_store Tryz.prog w ⟨g, i, none⟩ (.int .u64 z) .plain rfl
  rw [hc] at hs
  simp only [hf, Bool.false_eq_true, if_false] at hs
  simp [Instr.storeAt, Instr.sureAddr, storeVar, sizeOf, typeInfo, hq, hz1, storeCells, add_zero, Value.cells, hs, Sem.run_bind]
theorem run_load60 (w : World) (g i : Nat) (z : Int) (pg : List Nat) (hB : Blk w g 72 (nums pg)) (hi : i < pg.length) (hz : wd pg i = z) :
    (Instr.loadAt 60 (.pointer (some ⟨g, i, none⟩))).run Tryz.prog w = .ok (.int .u64 z) w := by
  obtain ⟨i0, hq, hz0, hz1, hz2⟩ := info_parts info60
  have hc := hB.num i hi
  rw [hz] at hc
  have hagg : (isAgg 60).run Tryz.prog w = .ok false w := by
    unfold isAgg
    rw [Sem.run_bind, run_underlying Tryz.underlying60 w]
    rfl
  simp [Instr.loadAt, Instr.sureAddr, loadVar, hagg, Sem.run_bind, run_load, hc]

section
variable {ops : Array Oper} {rest : List Oper} {o : Oper} {a : Act} {w : World} {Q : Exit → Act → World → Prop}
theorem wpList_store_word (hgd : o.guard = none) (x y : Operand) (ho : o.op = .store 60 x y) (g i : Nat) (hx : a.eval x = .pointer (some ⟨g, i, none⟩)) (z : Int) (hy : a.eval y = .int .u64 z) (n : Nat) (hz : z = (n : Int))
    (pg : List Nat) (hB : Blk w g 72 (nums pg)) (hi : i < pg.length)
    (h : ∀ w', Chg [g] w w' → w'.heap.size = w.heap.size → Blk w' g 72 (nums (pg.set i n)) → wpList Tryz.prog ops Q rest (a.put o.dst undef) w') : wpList Tryz.prog ops Q (o :: rest) a w := by
  refine wpList_plain hgd fun K hK => ?_
  unfold Oper.wp execOp
  simp only [ho, hx, hy, Sem.run_bind, run_store60 w g i z pg hB hi, Result.andThen_ok]
  refine hK _ _ (h _ ((Chg.refl _ _).set _ (by simp) _) (by simp [World.setCell]) ?_)
  subst hz
  exact hB.setEq (nums_set pg i n)

theorem wpList_load_word (hgd : o.guard = none) (x : Operand) (ho : o.op = .load 60 x) (g i : Nat) (hx : a.eval x = .pointer (some ⟨g, i, none⟩)) (z : Int)
    (pg : List Nat) (hB : Blk w g 72 (nums pg)) (hi : i < pg.length) (hz : wd pg i = z)
    (h : wpList Tryz.prog ops Q rest (a.put o.dst (.int .u64 z)) w) : wpList Tryz.prog ops Q (o :: rest) a w := by
  refine wpList_plain hgd fun K hK => ?_
  unfold Oper.wp execOp
  simp only [ho, hx, Sem.run_bind, run_load60 w g i z pg hB hi hz, Result.andThen_ok]
  exact hK _ _ h

/-- Words laid over others from a place on. -/
def lay (pg : List Nat) (off : Nat) (l : List Nat) : List Nat := pg.take off ++ (l ++ pg.drop (off + l.length))
theorem lay_len (pg : List Nat) (off : Nat) (l : List Nat) (h : off + l.length ≤ pg.length) : (lay pg off l).length = pg.length := by simp [lay]; omega
theorem lay_wd (pg : List Nat) (off : Nat) (l : List Nat) (h : off + l.length ≤ pg.length) (j : Nat) : wd (lay pg off l) j = if off ≤ j ∧ j < off + l.length then wd l (j - off) else wd pg j := by
  unfold wd lay
  simp only [List.getD_eq_getElem?_getD]
  by_cases h1 : off ≤ j
  · rw [List.getElem?_append_right (by simp; omega), List.length_take, Nat.min_eq_left (by omega)]
    by_cases h2 : j < off + l.length
    · rw [List.getElem?_append_left (by omega), if_pos ⟨h1, h2⟩]
    · rw [List.getElem?_append_right (by omega), List.getElem?_drop, if_neg (by omega), show off + l.length + (j - off - l.length) = j by omega]
  · rw [List.getElem?_append_left (by simp; omega), List.getElem?_take_of_lt (by omega), if_neg (by omega)]

theorem wpList_copy_words (hgd : o.guard = none) (d s : Operand) (ho : o.op = .call { callee := .builtin .copy, args := #[d, s], argTypes := #[118, 118] }) (g off dLen dCap : Nat)
    (hd : a.eval d = .slice (some ⟨g, off, none⟩) dLen dCap) (v : Value) (hs : a.eval s = v) (n : Nat) (pg l : List Nat) (hB : Blk w g 72 (nums pg)) (hS : Sl w 1 v n (nums l).toList) (hn : n ≤ dLen) (hf : off + n ≤ pg.length)
    (h : ∀ w', Chg [g] w w' → w'.heap.size = w.heap.size → Blk w' g 72 (nums (lay pg off l)) → wpList Tryz.prog ops Q rest (a.put o.dst (goInt n)) w') : wpList Tryz.prog ops Q (o :: rest) a w := by
  have hl : l.length = n := by have := hS.len; rw [Array.length_toList, nums_size, Nat.mul_one] at this; exact this
  obtain ⟨A, c, rfl, h1, h2⟩ := hS.form
  by_cases h0 : n = 0
  · subst h0
    obtain rfl : l = [] := List.eq_nil_of_length_eq_zero hl
    refine wpList_copy_nothing hgd d s 118 118 ho 60 Tryz.underlying118 (by kernel_rfl) _ _ _ _ _ _ hd hs (by simp) ?_
    exact h w (Chg.refl _ _) rfl (by simpa [lay] using hB)
  · obtain ⟨b, p, rfl, hb, hx⟩ := hS.at_ (by omega)
    have hsz : (nums l).toList.length = n := by rw [Array.length_toList, nums_size, hl]
    refine wpList_copy_own hgd d s 118 118 ho 60 Tryz.underlying118 (by kernel_rfl) g off dLen dCap ⟨b, p, none⟩ n c hd hs (nums pg) 72 hB (nums l).toList (by rw [hsz]; exact (Nat.min_eq_left hn).symm) (fun j u hj => ?_) (by rw [hsz, nums_size]; exact hf) (nums_all l) ?_
    · have := (nums_toList l hj).1
      rw [add_mk, hx j (by omega)]
      exact hj
    · rw [hsz]
      refine h _ ⟨rfl, rfl, rfl, by simp [World.setRow], fun k hk hn => setRow_other w g k _ (by simpa using hn)⟩ (by simp [World.setRow]) ?_
      have e : ((nums pg).toList.take off ++ ((nums l).toList ++ (nums pg).toList.drop (off + n))).toArray = nums (lay pg off l) := by
        rw [← hl]
        simp [nums, lay, List.map_take, List.map_drop]
      rw [e]
      exact setRow_heap w g _ _ 72 _ hB
end

end Go.Proofs.YtpcaadipejnllaaGreatDoor

/- Pages as they are made: fences set, records put. -/
set_option linter.unusedVariables false
set_option linter.unusedSimpArgs false
namespace Go.Proofs.YtpcaadipejnllaaGreatDoor
open Go.RowKit

abbrev Pr := ByteArray × ByteArray
def rec_ (x : Pr) : Nat := nw x.1.size + nw x.2.size
def recs (l : List Pr) : Nat := (l.map rec_).sum
def costP (x : Pr) : Nat := 1 + rec_ x
def load (l : List Pr) : Nat := (l.map costP).sum
theorem load_eq (l : List Pr) : load l = l.length + recs l := by
  induction l with
  | nil => rfl
  | cons x l ih =>
    unfold load recs at *
    rw [List.map_cons, List.sum_cons, List.map_cons, List.sum_cons, List.length_cons, ih]
    unfold costP
    omega
theorem recs_app (l m : List Pr) : recs (l ++ m) = recs l + recs m := by simp [recs]
theorem load_app (l m : List Pr) : load (l ++ m) = load l + load m := by simp [load]
theorem recs_one (x : Pr) : recs [x] = rec_ x := by simp [recs]
theorem load_one (x : Pr) : load [x] = costP x := by simp [load]
theorem recs_take (l : List Pr) (k : Nat) : recs (l.take k) ≤ recs l := by
  conv => rhs; rw [← List.take_append_drop k l]
  rw [recs_app]; omega
theorem load_take (l : List Pr) (k : Nat) : load (l.take k) ≤ load l := by
  conv => rhs; rw [← List.take_append_drop k l]
  rw [load_app]; omega

/-- The head of a page. -/
structure Head (pg : List Nat) (lvl : Nat) (low high : ByteArray) (next : Nat) : Prop where
  len : pg.length = 128
  z : ∀ i, i < 8 → wd pg i = 0
  kind : wd pg 8 = (lvl : Int) + 1
  nxt : wd pg 10 = (next : Int)
  low_ : FenceAt pg 12 low
  high_ : FenceAt pg 16 high
/-- The directory and the records of a page. -/
structure Body (pg : List Nat) (l : List Pr) : Prop where
  cnt : wd pg 9 = (l.length : Int)
  top : wd pg 11 = ((128 - recs l : Nat) : Int)
  ent : ∀ k x, l[k]? = some x → wd pg (20 + k) = (dirW (128 - recs (l.take (k + 1))) x.1.size x.2.size : Nat) ∧
    (∀ i, i < nw x.1.size → wd pg (128 - recs (l.take (k + 1)) + i) = (pk x.1 i : Int)) ∧
    (∀ i, i < nw x.2.size → wd pg (128 - recs (l.take (k + 1)) + nw x.1.size + i) = (pk x.2 i : Int))

/-- Nothing below 20 but the words 9 and 11 plays with the head. -/
theorem Head.same {pg pg' : List Nat} {lvl : Nat} {low high : ByteArray} {next : Nat} (h : Head pg lvl low high next) (hl : pg'.length = 128) (hw : ∀ j, j < 20 → j ≠ 9 → j ≠ 11 → wd pg' j = wd pg j) : Head pg' lvl low high next := by
  refine ⟨hl, fun i hi => ?_, ?_, ?_, ⟨h.low_.size, ?_, fun i hi => ?_⟩, ⟨h.high_.size, ?_, fun i hi => ?_⟩⟩
  · rw [hw i (by omega) (by omega) (by omega)]; exact h.z i hi
  · rw [hw 8 (by omega) (by omega) (by omega)]; exact h.kind
  · rw [hw 10 (by omega) (by omega) (by omega)]; exact h.nxt
  · rw [hw 12 (by omega) (by omega) (by omega)]; exact h.low_.len
  · rw [hw _ (by omega) (by omega) (by omega)]; exact h.low_.wds i hi
  · rw [hw 16 (by omega) (by omega) (by omega)]; exact h.high_.len
  · rw [hw _ (by omega) (by omega) (by omega)]; exact h.high_.wds i hi

set_option maxRecDepth 100000 in
set_option maxHeartbeats 1000000 in
theorem set_fence_w (b a : Nat) (pg : List Nat) (s : ByteArray) (w : World) (h : Blk w b 72 (nums pg)) (hl : pg.length = 128) (ha : a ≤ 16) (hs : s.size ≤ 24) :
    Calls Tryz.prog 62 #[.pointer (some ⟨b, 0, none⟩), .int .i64 a, .string s] w
      fun e w' => e = .returned (.int .i64 0) ∧ Chg [b] w w' ∧ Blk w' b 72 (nums (lay (pg.set a s.size) (a + 1) (packW s))) := by
  have hn : nw s.size ≤ 3 := nw_le (by omega)
  have hbl := h.lt
  have q1 := fun w : World => slice72 w b (a + 1) (a + 4) (a + 1) (a + 4) (by omega) (by omega) (by omega) (by omega) (by omega)
  go_enter Tryz.func62, Tryz.ntmps62
  go_wp2_with (first
    | (go_at_call 104; refine (pack_w s _ (by omega)).mono ?_; rintro e w1 ⟨v, rfl, hown, hC1⟩; have hB1 := h.ext hC1)
    | (refine wpList_store_word rfl (.tmp 23) (.tmp 21) rfl b a rfl _ rfl s.size (by go_num) pg hB1 (by omega) ?_; intro w2 hC2 hs2 hB2; have hown2 := own_chg hown hC2 (by intro k hk; have := (hown.lt k hk).1; simp; omega))
    | (refine wpList_copy_words rfl (.tmp 30) (.tmp 31) rfl b (a + 1) _ _ rfl v rfl (nw s.size) _ _ hB2 (Sl.own hown2) (by omega) (by simp; omega) ?_; intro w3 hC3 hs3 hB3))
  go_ret
  exact ⟨rfl, ((hC1.mono (by simp)).trans hC2).trans hC3, hB3⟩

/-- A fence that is set where zeros were. -/
theorem FenceAt.set {pg : List Nat} {a : Nat} {s : ByteArray} (hl : pg.length = 128) (ha : a ≤ 16) (hs : s.size ≤ 24) (hz : ∀ i, i < 3 → wd pg (a + 1 + i) = 0) : FenceAt (lay (pg.set a s.size) (a + 1) (packW s)) a s := by
  have hn : nw s.size ≤ 3 := nw_le (by omega)
  have hf : a + 1 + (packW s).length ≤ (pg.set a s.size).length := by rw [packW_len, List.length_set]; omega
  refine ⟨hs, ?_, fun i hi => ?_⟩
  · rw [lay_wd _ _ _ hf, if_neg (by omega), wd_set _ _ _ _ (by omega), if_pos rfl]
  · rw [lay_wd _ _ _ hf, packW_len]
    by_cases h : i < nw s.size
    · rw [if_pos (by omega), show a + 1 + i - (a + 1) = i by omega]
      exact packUp_wd s _ i h
    · rw [if_neg (by omega), wd_set _ _ _ _ (by omega), if_neg (by omega), hz i hi, pk_zero s i (by unfold nw at h; omega)]
      rfl
theorem fence_far {pg : List Nat} {a : Nat} {s : ByteArray} (hl : pg.length = 128) (ha : a ≤ 16) (hs : s.size ≤ 24) (j : Nat) (hj : j < a ∨ a + 4 ≤ j) : wd (lay (pg.set a s.size) (a + 1) (packW s)) j = wd pg j := by
  have hn : nw s.size ≤ 3 := nw_le (by omega)
  rw [lay_wd _ _ _ (by rw [packW_len, List.length_set]; omega), packW_len, if_neg (by omega), wd_set _ _ _ _ (by omega), if_neg (by omega)]

end Go.Proofs.YtpcaadipejnllaaGreatDoor

/- A page that is made with its fences. -/
set_option linter.unusedVariables false
set_option linter.unusedSimpArgs false
namespace Go.Proofs.YtpcaadipejnllaaGreatDoor
open Go.RowKit

/-- The words of a new page. -/
def mk1 (lvl : Nat) : List Nat := (z128.set 8 (1 + lvl)).set 11 128
def mkPg (lvl : Nat) (low high : ByteArray) : List Nat := lay ((lay ((mk1 lvl).set 12 low.size) (12 + 1) (packW low)).set 16 high.size) (16 + 1) (packW high)
theorem mk1_len (lvl : Nat) : (mk1 lvl).length = 128 := by unfold mk1; rw [List.length_set, List.length_set, z128_len]
theorem lay_len2 {pg : List Nat} {a : Nat} {s : ByteArray} (hl : pg.length = 128) (ha : a ≤ 16) (hs : s.size ≤ 24) : (lay (pg.set a s.size) (a + 1) (packW s)).length = 128 := by
  have hn : nw s.size ≤ 3 := nw_le (by omega)
  rw [lay_len _ _ _ (by rw [packW_len, List.length_set]; omega), List.length_set, hl]
theorem mk1_wd (lvl j : Nat) : wd (mk1 lvl) j = if j = 8 then 1 + (lvl : Int) else if j = 11 then 128 else 0 := by
  unfold mk1
  rw [wd_set _ _ _ _ (by rw [List.length_set, z128_len]; omega), wd_set _ _ _ _ (by rw [z128_len]; omega), z128_wd]
  by_cases h1 : 11 = j
  · subst h1; simp
  · rw [if_neg h1]
    by_cases h2 : 8 = j
    · subst h2; simp
    · rw [if_neg h2, if_neg (by omega), if_neg (by omega)]
theorem mkPg_head (lvl : Nat) (low high : ByteArray) (hl : low.size ≤ 24) (hh : high.size ≤ 24) : Head (mkPg lvl low high) lvl low high 0 ∧ wd (mkPg lvl low high) 9 = 0 ∧ wd (mkPg lvl low high) 11 = 128 := by
  have h1 := mk1_len lvl
  have h2 := lay_len2 (a := 12) h1 (by omega) hl
  have h3 := lay_len2 (a := 16) h2 (by omega) hh
  have f1 : FenceAt (lay ((mk1 lvl).set 12 low.size) (12 + 1) (packW low)) 12 low := FenceAt.set h1 (by omega) hl (fun i hi => by rw [mk1_wd, if_neg (by omega), if_neg (by omega)])
  have f2 : FenceAt (mkPg lvl low high) 16 high := FenceAt.set h2 (by omega) hh (fun i hi => by rw [fence_far h1 (by omega) hl _ (by omega), mk1_wd, if_neg (by omega), if_neg (by omega)])
  have e : ∀ j, j < 16 → wd (mkPg lvl low high) j = wd (lay ((mk1 lvl).set 12 low.size) (12 + 1) (packW low)) j := fun j hj => fence_far h2 (by omega) hh _ (by omega)
  have e2 : ∀ j, j < 12 → wd (mkPg lvl low high) j = wd (mk1 lvl) j := fun j hj => by rw [e j (by omega)]; exact fence_far h1 (by omega) hl _ (by omega)
  refine ⟨⟨h3, fun i hi => ?_, ?_, ?_, ⟨hl, ?_, fun i hi => ?_⟩, f2⟩, ?_, ?_⟩
  · rw [e2 i (by omega), mk1_wd, if_neg (by omega), if_neg (by omega)]
  · rw [e2 8 (by omega), mk1_wd, if_pos rfl]; omega
  · rw [e2 10 (by omega), mk1_wd, if_neg (by omega), if_neg (by omega)]; rfl
  · rw [e 12 (by omega)]; exact f1.len
  · rw [e _ (by omega)]; exact f1.wds i hi
  · rw [e2 9 (by omega), mk1_wd, if_neg (by omega), if_neg (by omega)]
  · rw [e2 11 (by omega), mk1_wd, if_neg (by omega), if_pos rfl]

theorem set_low_w (b : Nat) (pg pg' : List Nat) (s : ByteArray) (w : World) (h : Blk w b 72 (nums pg)) (hl : pg.length = 128) (hs : s.size ≤ 24) (he : lay (pg.set 12 s.size) (12 + 1) (packW s) = pg') :
    Calls Tryz.prog 62 #[.pointer (some ⟨b, 0, none⟩), .int .i64 12, .string s] w fun e w' => e = .returned (.int .i64 0) ∧ Chg [b] w w' ∧ Blk w' b 72 (nums pg') := he ▸ set_fence_w b 12 pg s w h hl (by omega) hs
theorem set_high_w (b : Nat) (pg pg' : List Nat) (s : ByteArray) (w : World) (h : Blk w b 72 (nums pg)) (hl : pg.length = 128) (hs : s.size ≤ 24) (he : lay (pg.set 16 s.size) (16 + 1) (packW s) = pg') :
    Calls Tryz.prog 62 #[.pointer (some ⟨b, 0, none⟩), .int .i64 16, .string s] w fun e w' => e = .returned (.int .i64 0) ∧ Chg [b] w w' ∧ Blk w' b 72 (nums pg') := he ▸ set_fence_w b 16 pg s w h hl (by omega) hs
def emptyS : ByteArray := ⟨#[]⟩
set_option maxRecDepth 100000 in
set_option maxHeartbeats 1000000 in
theorem make_w (lvl : Nat) (low high : ByteArray) (w : World) (hv : lvl ≤ 5) (hl : low.size ≤ 24) (hh : high.size ≤ 24) (ho : high = ⟨#[]⟩ ∨ (high ≠ ⟨#[]⟩ ∧ cmpS low high < 0)) :
    Calls Tryz.prog 24 #[.int .i64 lvl, .string low, .string high] w fun e w' => e = .returned (.tuple #[.agg (nums (mkPg lvl low high)), .int .i64 0]) ∧ Chg [] w w' := by
  have h1 := mk1_len lvl
  have h2 := lay_len2 (a := 12) h1 (by omega) hl
  have h3 := lay_len2 (a := 16) h2 (by omega) hh
  have hsz : (nums (mkPg lvl low high)).size = 128 := by rw [nums_size]; exact h3
  have hsz2 : (nums z128).size = 128 := by rw [nums_size]; exact z128_len
  have hone : (nums (mkPg lvl low high)).all (·.oneCell') = true := nums_one _
  have e1 : (z128.set 8 (1 + lvl)).set 11 128 = mk1 lvl := rfl
  obtain ⟨M1, hM1⟩ : ∃ M, M = mk1 lvl := ⟨_, rfl⟩
  obtain ⟨M0, hM0⟩ : ∃ M, M = z128.set 8 (1 + lvl) := ⟨_, rfl⟩
  obtain ⟨Z, hZ⟩ : ∃ Z, Z = z128 := ⟨_, rfl⟩
  obtain ⟨M2, hM2⟩ : ∃ M, lay ((mk1 lvl).set 12 low.size) (12 + 1) (packW low) = M := ⟨_, rfl⟩
  obtain ⟨M3, hM3⟩ : ∃ M, mkPg lvl low high = M := ⟨_, rfl⟩
  have hM3' : lay (M2.set 16 high.size) (16 + 1) (packW high) = M3 := by rw [← hM2, ← hM3]; rfl
  have hZs : ∀ w : World, Blk w 0 72 (nums z128) = Blk w 0 72 (nums z128) := fun _ => rfl
  rw [hM3] at hsz hone ⊢
  rw [hM2] at h2
  rw [← hM1] at h1 hM2 e1
  have hM0l : M0.length = 128 := by rw [hM0, List.length_set, z128_len]
  rw [← hM0] at e1
  have H0 := Lib.hid hM0
  have H1 := Lib.hid e1
  have H2 := Lib.hid hM2
  have H3 := Lib.hid hM3'
  clear hM0 hM1 e1 hM2 hM3 hM3' hZ hZs
  rcases ho with rfl | ⟨hne, ho⟩
  · go_enter Tryz.func24, Tryz.ntmps24
    go_wp2_with (first
      | (refine wpList_store_word rfl (.tmp 42) (.tmp 41) rfl (w.heap.size + 1) 8 rfl _ rfl (1 + lvl) (by go_num) z128 (Blk.newEq (by simp)) (by rw [z128_len]; omega) ?_; intro w2 hC2 hs2 hB2; rw [← H0.out] at hB2; obtain ⟨hR2, hCC2⟩ : Blk w2 w.heap.size 72 (nums z128) ∧ Chg [] w w2 := ⟨((Blk.new w 72 _).alloc _).chg hC2 (by simp), (((Chg.refl _ _).alloc _).alloc _).on hC2 (by simp)⟩)
      | (refine wpList_store_word rfl (.tmp 43) (.const (.int .u64 128)) rfl (w.heap.size + 1) 11 rfl _ rfl 128 (by go_num) _ hB2 (by omega) ?_; intro w3 hC3 hs3 hB3; rw [H1.out] at hB3; have hR3 := hR2.chg hC3 (by simp); have hCC3 := hCC2.on hC3 (by simp))
      | (go_at_call 62; refine (set_high_w _ M2 M3 _ _ hB4 h2 hh H3.out).mono ?_; rintro e w5 ⟨rfl, hC5, hB5⟩; have hR5 := hR4.chg hC5 (by simp); have hCC5 := hCC4.on hC5 (by simp))
      | (go_at_call 62; refine (set_low_w _ M1 M2 low _ hB3 h1 hl H2.out).mono ?_; rintro e w4 ⟨rfl, hC4, hB4⟩; have hR4 := hR3.chg hC4 (by simp); have hCC4 := hCC3.on hC4 (by simp))
      | (refine wpList_load_row rfl 72 (.tmp 8) rfl (w.heap.size + 1) rfl 72 (nums M3) (0, 0) _ hB5 Tryz.underlying72 rfl (hsz ▸ (by kernel_rfl)) ?_)
      | (refine wpList_store_blk rfl 72 (.tmp 6) (.tmp 56) rfl w.heap.size rfl (nums M3) rfl 72 _ hR5 (hsz ▸ (by kernel_rfl)) (by rw [hsz, hsz2]) hone ?_; intro w6 hC6 hs6 hB6))
    all_goals exact bodyPost_ret (res_row_tmp rfl _ hB6 rfl rfl Tryz.underlying72 rfl (hsz ▸ (by kernel_rfl))) rfl ⟨rfl, hCC5.on hC6 (by simp)⟩
  · go_enter Tryz.func24, Tryz.ntmps24
    go_wp2_with (first
      | (go_at_call 61; refine (compare_w _ _ _).mono ?_; rintro e w1 ⟨rfl, rfl⟩)
      | (refine wpList_store_word rfl (.tmp 42) (.tmp 41) rfl (w.heap.size + 1) 8 rfl _ rfl (1 + lvl) (by go_num) z128 (Blk.newEq (by simp)) (by rw [z128_len]; omega) ?_; intro w2 hC2 hs2 hB2; rw [← H0.out] at hB2; obtain ⟨hR2, hCC2⟩ : Blk w2 w.heap.size 72 (nums z128) ∧ Chg [] w w2 := ⟨((Blk.new w 72 _).alloc _).chg hC2 (by simp), (((Chg.refl _ _).alloc _).alloc _).on hC2 (by simp)⟩)
      | (refine wpList_store_word rfl (.tmp 43) (.const (.int .u64 128)) rfl (w.heap.size + 1) 11 rfl _ rfl 128 (by go_num) _ hB2 (by omega) ?_; intro w3 hC3 hs3 hB3; rw [H1.out] at hB3; have hR3 := hR2.chg hC3 (by simp); have hCC3 := hCC2.on hC3 (by simp))
      | (go_at_call 62; refine (set_high_w _ M2 M3 _ _ hB4 h2 hh H3.out).mono ?_; rintro e w5 ⟨rfl, hC5, hB5⟩; have hR5 := hR4.chg hC5 (by simp); have hCC5 := hCC4.on hC5 (by simp))
      | (go_at_call 62; refine (set_low_w _ M1 M2 low _ hB3 h1 hl H2.out).mono ?_; rintro e w4 ⟨rfl, hC4, hB4⟩; have hR4 := hR3.chg hC4 (by simp); have hCC4 := hCC3.on hC4 (by simp))
      | (refine wpList_load_row rfl 72 (.tmp 8) rfl (w.heap.size + 1) rfl 72 (nums M3) (0, 0) _ hB5 Tryz.underlying72 rfl (hsz ▸ (by kernel_rfl)) ?_)
      | (refine wpList_store_blk rfl 72 (.tmp 6) (.tmp 56) rfl w.heap.size rfl (nums M3) rfl 72 _ hR5 (hsz ▸ (by kernel_rfl)) (by rw [hsz, hsz2]) hone ?_; intro w6 hC6 hs6 hB6))
    all_goals exact bodyPost_ret (res_row_tmp rfl _ hB6 rfl rfl Tryz.underlying72 rfl (hsz ▸ (by kernel_rfl))) rfl ⟨rfl, hCC5.on hC6 (by simp)⟩

end Go.Proofs.YtpcaadipejnllaaGreatDoor

/- Records put into a page. -/
set_option linter.unusedVariables false
set_option linter.unusedSimpArgs false
namespace Go.Proofs.YtpcaadipejnllaaGreatDoor
open Go.RowKit

theorem or_dir (a k v : Nat) (ha : a ≤ 128) (hk : k < 256) (hv : v < 256) : bits .or .u64 (bits .or .u64 ((a : Int) * 65536) ((k : Int) * 256)) (v : Int) = ((dirW a k v : Nat) : Int) := by
  rw [show ((a : Int) * 65536) = ((a * 65536 : Nat) : Int) by omega, show ((k : Int) * 256) = ((k * 256 : Nat) : Int) by omega, u64_or_nat (a * 65536) (k * 256) (by omega) (by omega)]
  have h1 : a * 65536 ||| k * 256 = a * 65536 + k * 256 := by
    rw [show a * 65536 = a <<< 16 by rw [Nat.shiftLeft_eq], Nat.shiftLeft_add_eq_or_of_lt (by omega) a]
  rw [h1, u64_or_nat _ v (by omega) (by omega)]
  have h2 : (a * 65536 + k * 256) ||| v = a * 65536 + k * 256 + v := by
    rw [show a * 65536 + k * 256 = (a * 256 + k) <<< 8 by rw [Nat.shiftLeft_eq]; omega, Nat.shiftLeft_add_eq_or_of_lt (by omega)]
  rw [h2]
  rfl

/-- The words of a page behind a record. -/
def putRec (pg : List Nat) (n t : Nat) (x : Pr) : List Nat :=
  ((lay (lay (pg.set 11 t) t (packW x.1)) (t + nw x.1.size) (packW x.2)).set (20 + n) (dirW t x.1.size x.2.size)).set 9 (n + 1)

theorem putRec_wd (pg : List Nat) (n t : Nat) (x : Pr) (hl : pg.length = 128) (hn : n < 108) (h20 : 20 + n < t) (ht : t + rec_ x ≤ 128) (j : Nat) :
    wd (putRec pg n t x) j = if j = 9 then (n : Int) + 1 else if j = 20 + n then (dirW t x.1.size x.2.size : Nat) else if t ≤ j ∧ j < t + nw x.1.size then (pk x.1 (j - t) : Int) else if t + nw x.1.size ≤ j ∧ j < t + rec_ x then (pk x.2 (j - (t + nw x.1.size)) : Int) else if j = 11 then (t : Int) else wd pg j := by
  have hr : rec_ x = nw x.1.size + nw x.2.size := rfl
  have l1 : (lay (pg.set 11 t) t (packW x.1)).length = 128 := by rw [lay_len _ _ _ (by rw [packW_len, List.length_set]; omega), List.length_set, hl]
  have l2 : (lay (lay (pg.set 11 t) t (packW x.1)) (t + nw x.1.size) (packW x.2)).length = 128 := by rw [lay_len _ _ _ (by rw [packW_len]; omega), l1]
  unfold putRec
  rw [wd_set _ _ _ _ (by rw [List.length_set]; omega), wd_set _ _ _ _ (by omega), lay_wd _ _ _ (by rw [packW_len]; omega), lay_wd _ _ _ (by rw [packW_len, List.length_set]; omega), wd_set _ _ _ _ (by omega), packW_len, packW_len]
  by_cases h9 : j = 9
  · subst h9; simp
  · rw [if_neg (fun h => h9 h.symm), if_neg h9]
    by_cases hd : j = 20 + n
    · subst hd; simp
    · rw [if_neg (fun h => hd h.symm), if_neg hd]
      by_cases h1 : t ≤ j ∧ j < t + nw x.1.size
      · rw [if_neg (show ¬ (t + nw x.1.size ≤ j ∧ j < t + nw x.1.size + nw x.2.size) by omega), if_pos h1, if_pos h1]
        exact packUp_wd _ _ _ (by omega)
      · rw [if_neg h1, if_neg h1]
        by_cases h2 : t + nw x.1.size ≤ j ∧ j < t + nw x.1.size + nw x.2.size
        · rw [if_pos h2, if_pos (show t + nw x.1.size ≤ j ∧ j < t + rec_ x by omega)]
          exact packUp_wd _ _ _ (by omega)
        · rw [if_neg h2, if_neg (show ¬ (t + nw x.1.size ≤ j ∧ j < t + rec_ x) by omega)]
          by_cases h11 : j = 11
          · subst h11; simp
          · rw [if_neg (show ¬ 11 = j from fun h => h11 h.symm), if_neg h11]

theorem putRec_len (pg : List Nat) (n t : Nat) (x : Pr) (hl : pg.length = 128) (ht : t + rec_ x ≤ 128) : (putRec pg n t x).length = 128 := by
  have hr : rec_ x = nw x.1.size + nw x.2.size := rfl
  have l1 : (lay (pg.set 11 t) t (packW x.1)).length = 128 := by rw [lay_len _ _ _ (by rw [packW_len, List.length_set]; omega), List.length_set, hl]
  unfold putRec
  rw [List.length_set, List.length_set, lay_len _ _ _ (by rw [packW_len]; omega), l1]

/-- A record more. -/
theorem Body.put {pg : List Nat} {l : List Pr} {x : Pr} (h : Body pg l) (hl : pg.length = 128) (hf : load (l ++ [x]) ≤ 108) (hx : 0 < rec_ x) : Body (putRec pg l.length (128 - recs l - rec_ x) x) (l ++ [x]) := by
  have hr : rec_ x = nw x.1.size + nw x.2.size := rfl
  have e1 := load_eq l
  have e2 : load (l ++ [x]) = load l + (1 + rec_ x) := by rw [load_app, load_one]; rfl
  have W := putRec_wd pg l.length (128 - recs l - rec_ x) x hl (by omega) (by omega) (by omega)
  refine ⟨?_, ?_, fun k y hk => ?_⟩
  · rw [W, if_pos rfl]; simp
  · rw [W, if_neg (by omega), if_neg (by omega), if_neg (by omega), if_neg (by omega), if_pos rfl, recs_app, recs_one]
    congr 1; omega
  · by_cases hlt : k < l.length
    · rw [List.getElem?_append_left hlt] at hk
      have ht : (l ++ [x]).take (k + 1) = l.take (k + 1) := List.take_append_of_le_length (by omega)
      rw [ht]
      have hle := recs_take l (k + 1)
      have hrk : rec_ y ≤ recs (l.take (k + 1)) := by
        rw [List.take_add_one, hk, recs_app]
        simp [recs_one]
      have hry : rec_ y = nw y.1.size + nw y.2.size := rfl
      obtain ⟨a1, a2, a3⟩ := h.ent k y hk
      refine ⟨?_, fun i hi => ?_, fun i hi => ?_⟩
      · rw [W, if_neg (by omega), if_neg (by omega), if_neg (by omega), if_neg (by omega), if_neg (by omega)]; exact a1
      · rw [W, if_neg (by omega), if_neg (by omega), if_neg (by omega), if_neg (by omega), if_neg (by omega)]; exact a2 i hi
      · rw [W, if_neg (by omega), if_neg (by omega), if_neg (by omega), if_neg (by omega), if_neg (by omega)]; exact a3 i hi
    · have hlen : k < (l ++ [x]).length := (List.getElem?_eq_some_iff.1 hk).1
      rw [List.length_append, List.length_singleton] at hlen
      obtain rfl : k = l.length := by omega
      rw [List.getElem?_append_right (by omega), Nat.sub_self] at hk
      obtain rfl : x = y := by simpa using hk
      have ht : (l ++ [x]).take (l.length + 1) = l ++ [x] := List.take_of_length_le (by simp)
      rw [ht, recs_app, recs_one]
      refine ⟨?_, fun i hi => ?_, fun i hi => ?_⟩
      · rw [W, if_neg (by omega), if_pos rfl]; congr 2; omega
      · rw [W, if_neg (by omega), if_neg (by omega), if_pos (by omega)]; congr 2; omega
      · rw [W, if_neg (by omega), if_neg (by omega), if_neg (by omega), if_pos (by omega)]; congr 2; omega
theorem putRec_low {pg : List Nat} {n t : Nat} {x : Pr} (hl : pg.length = 128) (hn : n < 108) (h20 : 20 + n < t) (ht : t + rec_ x ≤ 128) (j : Nat) (hj : j < 20) (h9 : j ≠ 9) (h11 : j ≠ 11) : wd (putRec pg n t x) j = wd pg j := by
  rw [putRec_wd pg n t x hl hn h20 ht, if_neg h9, if_neg (by omega), if_neg (by omega), if_neg (by omega), if_neg h11]

end Go.Proofs.YtpcaadipejnllaaGreatDoor

/- The walk of record. -/
set_option linter.unusedVariables false
set_option linter.unusedSimpArgs false
namespace Go.Proofs.YtpcaadipejnllaaGreatDoor
open Go.RowKit

theorem slice72u (w : World) (b : Nat) (l : Nat) (k : IntKind) (li : Int) (el : li = l) (h3 : l < 128) :
    (Instr.sliceAt 72 (.pointer (some ⟨b, 0, none⟩)) (some (.int k li)) none none).run Tryz.prog w = .ok (.slice (some ⟨b, l, none⟩) (128 - l) (128 - l)) w := by
  subst el
  rw [run_sliceAt_array_l w 72 ⟨b, 0, none⟩ un72 k _ (by omega) (by rw [al72]; omega), el72, sz60, al72]
  simp only [Result.andThen, slicedAt, Int.toNat_natCast, Nat.mul_one]
  rw [if_neg (by omega), add_mk, Nat.zero_add]

set_option maxRecDepth 100000 in
set_option maxHeartbeats 1000000 in
theorem record_w (b : Nat) (pg : List Nat) (l : List Pr) (x : Pr) (w : World) (h : Blk w b 72 (nums pg)) (hl : pg.length = 128) (hB : Body pg l) (hf : load (l ++ [x]) ≤ 108) (h1 : x.1.size ≤ 24) (h2 : x.2.size ≤ 40) (h3 : 0 < x.2.size) :
    Calls Tryz.prog 212 #[.pointer (some ⟨b, 0, none⟩), .string x.1, .string x.2] w
      fun e w' => e = .returned (.tuple #[]) ∧ Chg [b] w w' ∧ Blk w' b 72 (nums (putRec pg l.length (128 - recs l - rec_ x) x)) := by
  have hr : rec_ x = nw x.1.size + nw x.2.size := rfl
  have e1 := load_eq l
  have e2 : load (l ++ [x]) = load l + (1 + rec_ x) := by rw [load_app, load_one]; rfl
  have hn1 : nw x.1.size ≤ 3 := nw_le (by omega)
  have hn2 : nw x.2.size ≤ 5 := nw_le (by omega)
  have hn3 : 0 < nw x.2.size := by unfold nw; omega
  obtain ⟨t, ht⟩ : ∃ t, t = 128 - recs l - rec_ x := ⟨_, rfl⟩
  obtain ⟨T, hT⟩ : ∃ T, T = 128 - recs l := ⟨_, rfl⟩
  rw [← ht]
  have Ht := Lib.hid ht
  have htl : t + rec_ (x.1, x.2) + recs l = 128 := by rw [ht]; show 128 - recs l - rec_ x + rec_ x + recs l = 128; omega
  have c9 := hB.cnt
  have c11 := hB.top
  rw [← hT] at c11
  have hTl : T + recs l = 128 := by omega
  have ht20 : 20 + l.length < t := by omega
  clear ht hT
  have hbl := h.lt
  obtain ⟨k, v⟩ := x
  simp only at h1 h2 h3 hr hn1 hn2 hn3
  go_enter Tryz.func212, Tryz.ntmps212
  go_wp2_with (first
    | (go_at_call 104; have _h0 := hC1; refine (pack_w v _ (by omega)).mono ?_; rintro e w2 ⟨vv, rfl, hownv, hC2⟩; obtain ⟨Av, cv, rfl, _, _⟩ := (Sl.own hownv).form; have hCC := hC1.nil hC2; have hB2 := h.ext hCC; have hownk2 := own_ext hownk hC2; have hsz1 := hC1.size)
    | (go_at_call 104; refine (pack_w k _ (by omega)).mono ?_; rintro e w1 ⟨vk, rfl, hownk, hC1⟩; obtain ⟨Ak, ck, rfl, _, _⟩ := (Sl.own hownk).form))
  have cc := hB2.num 11 (by omega)
  rw [c11] at cc
  refine wp_region_tail 13 (by kernel_rfl) (by kernel_rfl) ?_
  simp only [List.take_succ_cons, List.take_zero, List.drop_succ_cons, List.drop_zero]
  repeat still_step
  refine wpStill_nil ?_
  clear cc
  have q1 := fun w : World => slice72u w b t .u64 t rfl (by omega)
  have q2 := fun w : World => slice72u w b (t + nw k.size) .i64 (t + nw k.size) (by omega) (by omega)
  have y1 : IntKind.i64.wrap ((nw k.size : Int) + (nw v.size : Int)) = ((nw k.size + nw v.size : Nat) : Int) := by rw [← Int.natCast_add]; exact wrap_nat _ (by omega)
  have y2 : IntKind.u64.wrap ((nw k.size + nw v.size : Nat) : Int) = ((nw k.size + nw v.size : Nat) : Int) := by rw [IntKind.wrap_u64]; omega
  have y3 : IntKind.u64.wrap ((T : Int) - ((nw k.size + nw v.size : Nat) : Int)) = (t : Int) := by rw [show (T : Int) - ((nw k.size + nw v.size : Nat) : Int) = (t : Int) by have : rec_ (k, v) = nw k.size + nw v.size := rfl; omega, IntKind.wrap_u64]; omega
  simp only [y1, y2, y3]
  clear y1 y2 y3
  go_wp2_with (first
    | (refine wpList_store_word rfl (.tmp 33) (.tmp 31) rfl b 11 rfl _ rfl t rfl pg hB2.drew (by omega) ?_; intro w3 hC3 hs3 hB3; have hCC3 := ((hCC.mono (T := []) (S := [b]) (by simp)).drew).trans hC3; have hk3 := own_chg (own_ext hownk2 ((Chg.refl [] _).drew)) hC3 (by intro i hi; have := (hownk.lt i hi).1; simp; omega); have hv3 := own_chg (own_ext hownv ((Chg.refl [] _).drew)) hC3 (by intro i hi; have := (hownv.lt i hi).1; simp; omega); have c3 := hB3.num 11 (by rw [List.length_set]; omega); rw [wd_set _ _ _ _ (by omega), if_pos rfl] at c3)
    | (refine wpList_copy_words rfl (.tmp 41) (.tmp 42) rfl b t _ _ rfl _ rfl (nw k.size) _ _ hB3 (Sl.own hk3) (by omega) (by simp; omega) ?_; intro w4 hC4 hs4 hB4; clear c3; have hCC4 := hCC3.trans hC4; have hv4 := own_chg hv3 hC4 (by intro i hi; have := (hownv.lt i hi).1; simp; omega))
    | (refine wpList_copy_words rfl (.tmp 51) (.tmp 52) rfl b (t + nw k.size) _ _ rfl _ rfl (nw v.size) _ _ hB4 (Sl.own hv4) (by omega) (by rw [lay_len _ _ _ (by rw [packW_len, List.length_set]; omega), List.length_set]; omega) ?_; intro w5 hC5 hs5 hB5; have hCC5 := hCC4.trans hC5))
  have lA : (lay (pg.set 11 t) t (packW k)).length = 128 := by rw [lay_len _ _ _ (by rw [packW_len, List.length_set]; omega), List.length_set, hl]
  have lP : (lay (lay (pg.set 11 t) t (packW k)) (t + nw k.size) (packW v)).length = 128 := by rw [lay_len _ _ _ (by rw [packW_len]; omega), lA]
  have e9 : wd (lay (lay (pg.set 11 t) t (packW k)) (t + nw k.size) (packW v)) 9 = (l.length : Int) := by
    rw [lay_wd _ _ _ (by rw [packW_len]; omega), if_neg (by omega), lay_wd _ _ _ (by rw [packW_len, List.length_set]; omega), if_neg (by omega), wd_set _ _ _ _ (by omega), if_neg (by omega), c9]
  obtain ⟨P, hP⟩ : ∃ P, P = lay (lay (pg.set 11 t) t (packW k)) (t + nw k.size) (packW v) := ⟨_, rfl⟩
  have hput : putRec pg l.length t (k, v) = (P.set (20 + l.length) (dirW t k.size v.size)).set 9 (l.length + 1) := by rw [hP]; rfl
  have Hput := Lib.hid hput
  rw [← hP] at hB5 lP e9
  clear hP hput hB4 hB3
  have cc := hB5.num 9 (by omega)
  rw [e9] at cc
  refine wp_region_tail 18 (by kernel_rfl) (by kernel_rfl) ?_
  simp only [List.take_succ_cons, List.take_zero, List.drop_succ_cons, List.drop_zero]
  repeat still_step
  refine wpStill_nil ?_
  have y1 : IntKind.u64.wrap (20 + (l.length : Int)) = ((20 + l.length : Nat) : Int) := by rw [IntKind.wrap_u64]; omega
  have y2 : IntKind.u64.wrap ((t : Int) * 65536) = (t : Int) * 65536 := by rw [IntKind.wrap_u64]; omega
  have y3 : IntKind.u64.wrap (k.size : Int) = (k.size : Int) := by rw [IntKind.wrap_u64]; omega
  have y4 : IntKind.u64.wrap ((k.size : Int) * 256) = (k.size : Int) * 256 := by rw [IntKind.wrap_u64]; omega
  have y5 : IntKind.u64.wrap (v.size : Int) = (v.size : Int) := by rw [IntKind.wrap_u64]; omega
  simp only [y1, y2, y3, y4, y5, or_dir t k.size v.size (by omega) (by omega) (by omega)]
  clear y1 y2 y3 y4 y5 cc
  go_wp2_with (first
    | (refine wpList_store_word rfl (.tmp 72) (.tmp 70) rfl b (20 + l.length) rfl _ rfl (dirW t k.size v.size) rfl P hB5.drew (by omega) ?_; intro w6 hC6 hs6 hB6; have hCC6 := hCC5.drew.trans hC6))
  have e9' : wd (P.set (20 + l.length) (dirW t k.size v.size)) 9 = (l.length : Int) := by rw [wd_set _ _ _ _ (by omega), if_neg (by omega), e9]
  have cc := hB6.num 9 (by rw [List.length_set]; omega)
  rw [e9'] at cc
  refine wp_region_tail 7 (by kernel_rfl) (by kernel_rfl) ?_
  simp only [List.take_succ_cons, List.take_zero, List.drop_succ_cons, List.drop_zero]
  repeat still_step
  refine wpStill_nil ?_
  have y1 : IntKind.u64.wrap ((l.length : Int) + 1) = ((l.length + 1 : Nat) : Int) := by rw [IntKind.wrap_u64]; omega
  simp only [y1]
  clear y1 cc
  go_wp2_with (first
    | (refine wpList_store_word rfl (.tmp 79) (.tmp 77) rfl b 9 rfl _ rfl (l.length + 1) rfl _ hB6.drew (by rw [List.length_set]; omega) ?_; intro w7 hC7 hs7 hB7; have hCC7 := hCC6.drew.trans hC7))
  go_end0
  exact ⟨rfl, hCC7, by rw [Hput.out]; exact hB7⟩

end Go.Proofs.YtpcaadipejnllaaGreatDoor

/- The walk of compact. -/
set_option linter.unusedVariables false
set_option linter.unusedSimpArgs false
namespace Go.Proofs.YtpcaadipejnllaaGreatDoor
open Go.RowKit

/-- The cells of pairs. -/
def prs (l : List Pr) : List Value := l.flatMap fun x => [.string x.1, .string x.2]
theorem prs_len (l : List Pr) : (prs l).length = l.length * 2 := by
  induction l with
  | nil => rfl
  | cons x l ih => rw [prs, List.flatMap_cons, List.length_append, ← prs, ih, List.length_cons]; simp; omega
theorem prs_app (l m : List Pr) : prs (l ++ m) = prs l ++ prs m := by simp [prs]
theorem prs_one (x : Pr) : prs [x] = [.string x.1, .string x.2] := by simp [prs]
theorem prs_get (l : List Pr) (k : Nat) (x : Pr) (h : l[k]? = some x) : (prs l)[k * 2]? = some (.string x.1) ∧ (prs l)[k * 2 + 1]? = some (.string x.2) := by
  induction l generalizing k with
  | nil => simp at h
  | cons y l ih =>
    have e : prs (y :: l) = .string y.1 :: .string y.2 :: prs l := by simp [prs]
    rw [e]
    cases k with
    | zero => simp at h; subst h; exact ⟨rfl, rfl⟩
    | succ k =>
      rw [show (k + 1) * 2 = k * 2 + 1 + 1 by omega, List.getElem?_cons_succ, List.getElem?_cons_succ, List.getElem?_cons_succ, List.getElem?_cons_succ]
      exact ih k (by simpa using h)

/-- Words cleared. -/
def clr (pg : List Nat) (o : Nat) : Nat → List Nat
  | 0 => pg
  | n + 1 => clr (pg.set o 0) (o + 1) n
theorem clr_len (n : Nat) : ∀ (pg : List Nat) (o : Nat), (clr pg o n).length = pg.length := by
  induction n with
  | zero => intro pg o; rfl
  | succ n ih => intro pg o; rw [clr, ih, List.length_set]
theorem clr_wd (n : Nat) : ∀ (pg : List Nat) (o j : Nat), j < o → o + n ≤ pg.length → wd (clr pg o n) j = wd pg j := by
  induction n with
  | zero => intro pg o j _ _; rfl
  | succ n ih => intro pg o j h1 h2; rw [clr, ih _ _ _ (by omega) (by rw [List.length_set]; omega), wd_set _ _ _ _ (by omega), if_neg (by omega)]
theorem blk_clr (g : Nat) (n : Nat) : ∀ (pg : List Nat) (o : Nat) (w : World), Blk w g 72 (nums pg) → Chg [g] w (w.setCells g o (List.replicate n (.int .u64 0))) ∧ Blk (w.setCells g o (List.replicate n (.int .u64 0))) g 72 (nums (clr pg o n)) := by
  induction n with
  | zero => intro pg o w h; exact ⟨Chg.refl _ _, h⟩
  | succ n ih =>
    intro pg o w h
    rw [List.replicate_succ, World.setCells]
    have h2 : Blk (w.setCell ⟨g, o, none⟩ (.int .u64 0)) g 72 (nums (pg.set o 0)) := h.setEq (nums_set pg o 0)
    obtain ⟨h3, h4⟩ := ih (pg.set o 0) (o + 1) _ h2
    exact ⟨((Chg.refl _ _).set _ (by simp) _).trans h3, h4⟩
theorem zero60 (w : World) : (zeroValue 60).run Tryz.prog w = .ok (.int .u64 0) w := by
  obtain ⟨i0, hi, hz0, hz1, hz2⟩ := info_parts info60
  simp [zeroValue, typeInfo, hi, hz0, Sem.run_bind]

theorem wpList_clear_words {ops : Array Oper} {rest : List Oper} {o : Oper} {a : Act} {w : World} {Q : Exit → Act → World → Prop} (hgd : o.guard = none) (s : Operand) (ho : o.op = .call { callee := .builtin .clear, args := #[s], argTypes := #[118] }) (g off n c : Nat)
    (hs : a.eval s = .slice (some ⟨g, off, none⟩) n c) (pg : List Nat) (hB : Blk w g 72 (nums pg)) (hn : 0 < n) (hf : off + n ≤ pg.length)
    (h : ∀ w', Chg [g] w w' → Blk w' g 72 (nums (clr pg off n)) → wpList Tryz.prog ops Q rest (a.put o.dst (.tuple #[])) w') : wpList Tryz.prog ops Q (o :: rest) a w := by
  refine wpList_plain hgd fun K hK => ?_
  have hrun := Lib.run_clear_slice (P := Tryz.prog) w 118 60 o.type (.int .u64 0) Tryz.underlying118 zero60 rfl rfl g off n c hn (fun j hj => by rw [hB.num _ (by omega)]; rfl) (fun j hj => hB.frozen _)
  obtain ⟨h1, h2⟩ := blk_clr g n pg off w hB
  unfold Oper.wp
  simp [execOp, ho, resolve, invoke, builtin, hs, hrun, Result.andThen]
  exact hK _ _ (h _ h1 h2)

structure OkP (x : Pr) : Prop where
  k : x.1.size ≤ 24
  v : x.2.size ≤ 40
  p : 0 < x.2.size

set_option maxRecDepth 100000 in
set_option maxHeartbeats 1000000 in
theorem compact_w (b : Nat) (pg : List Nat) (l : List Pr) (v : Value) (w : World) (h : Blk w b 72 (nums pg)) (hl : pg.length = 128) (hS : Sl w 2 v l.length (prs l)) (hne : ∀ k, v.ownBlock = some k → k ≠ b) (hf : load l ≤ 108) (hx : ∀ x ∈ l, OkP x) :
    Calls Tryz.prog 203 #[.pointer (some ⟨b, 0, none⟩), v] w
      fun e w' => e = .returned (.tuple #[]) ∧ Chg [b] w w' ∧ ∃ pg', Blk w' b 72 (nums pg') ∧ pg'.length = 128 ∧ (∀ j, j < 20 → j ≠ 9 → j ≠ 11 → wd pg' j = wd pg j) ∧ Body pg' l := by
  obtain ⟨A, c, rfl, hc1, hc2⟩ := hS.form
  have q1 := fun w : World => slice72u w b 20 .i64 20 rfl (by omega)
  have hbl := h.lt
  have hlen : l.length ≤ 108 := by have := load_eq l; omega
  go_enter Tryz.func203, Tryz.ntmps203
  go_wp2_with (first
    | (refine wpList_clear_words rfl (.tmp 8) rfl b 20 _ _ rfl pg h (by omega) (by omega) ?_; intro w1 hC1 hB1))
  have c9 := hB1.num 9 (by rw [clr_len]; omega)
  have c11 := hB1.num 11 (by rw [clr_len]; omega)
  have f9 := hB1.frozen 9
  have f11 := hB1.frozen 11
  go_region_with (fail)
  have hl1 : (clr pg 20 108).length = 128 := by rw [clr_len, hl]
  have hlow1 : ∀ j, j < 20 → wd (clr pg 20 108) j = wd pg j := fun j hj => clr_wd 108 pg 20 j hj (by omega)
  obtain ⟨P, hP⟩ : ∃ P, P = clr pg 20 108 := ⟨_, rfl⟩
  rw [← hP] at hB1 hl1 hlow1
  clear hP c9 c11 f9 f11
  have e0 : Body ((P.set 9 0).set 11 128) (l.take 0) := by
    refine ⟨?_, ?_, fun k x hk => by simp at hk⟩
    · rw [wd_set _ _ _ _ (by rw [List.length_set]; omega), if_neg (by omega), wd_set _ _ _ _ (by omega), if_pos rfl]; rfl
    · rw [wd_set _ _ _ _ (by rw [List.length_set]; omega), if_pos rfl]; rfl
  have e0' : ∀ j, j < 20 → j ≠ 9 → j ≠ 11 → wd ((P.set 9 0).set 11 128) j = wd pg j := fun j h1 h2 h3 => by
    rw [wd_set _ _ _ _ (by rw [List.length_set]; omega), if_neg (by omega), wd_set _ _ _ _ (by omega), if_neg (by omega), hlow1 j h1]
  all_goals
    go_wp2
    go_loopw [17] (fun i wr => ∃ (k : Nat) (pg' : List Nat), k ≤ l.length ∧ i = .int .i64 k ∧ Chg [b] w wr ∧ Blk wr b 72 (nums pg') ∧ pg'.length = 128 ∧ (∀ j, j < 20 → j ≠ 9 → j ≠ 11 → wd pg' j = wd pg j) ∧ Body pg' (l.take k)) (fun i _ => l.length - (intOf i).toNat)
    case atStart =>
      exact ⟨0, (P.set 9 0).set 11 128, by omega, rfl, ((hC1.drew).set _ (by simp) _).set _ (by simp) _, ((hB1.drew).setEq (nums_set P 9 0)).setEq (nums_set _ 11 128), by rw [List.length_set, List.length_set]; exact hl1, e0', e0⟩
    case round =>
      obtain ⟨k, pg', hk, rfl, hC, hB, hl', hlow, hBody⟩ := hrel
      by_cases hlt : k < l.length
      · have hS2 := hS.chg hC (fun i hi => by simpa using hne i hi)
        obtain ⟨s, o, rfl, hs, hx'⟩ := hS2.at_ (by omega)
        obtain ⟨x, hxk⟩ : ∃ x, l[k]? = some x := ⟨_, List.getElem?_eq_getElem hlt⟩
        obtain ⟨g1, g2⟩ := prs_get l k x hxk
        have d1 := hx' (k * 2) (by omega)
        have d2 := hx' (k * 2 + 1) (by omega)
        rw [g1] at d1
        rw [g2, ← Nat.add_assoc] at d2
        obtain ⟨o1, o2, o3⟩ := hx x (List.mem_of_getElem? hxk)
        have htk : l.take (k + 1) = l.take k ++ [x] := by rw [List.take_add_one, hxk]; rfl
        have hfk : load (l.take k ++ [x]) ≤ 108 := by rw [← htk]; exact Nat.le_trans (load_take _ _) hf
        clear hx' hS2
        go_wp2_with (go_at_call 212; refine (record_w b pg' (l.take k) x _ (hB.alloc _) hl' hBody hfk o1 o2 o3).mono ?_; rintro e w2 ⟨rfl, hC2, hB2⟩)
        have hrk := load_eq (l.take k ++ [x])
        rw [recs_app, recs_one, List.length_append, List.length_take, Nat.min_eq_left hk, List.length_singleton] at hrk
        have hnv : 0 < nw x.2.size := by unfold nw; omega
        have hrp : 0 < rec_ x := by unfold rec_; omega
        have hsum : recs (l.take k) + rec_ x + k + 1 ≤ 108 := by omega
        go_roundw
        case rel =>
          refine ⟨k + 1, _, by omega, by go_num, (hC.alloc _).trans hC2, hB2, putRec_len _ _ _ _ hl' (by omega), fun j h1 h2 h3 => ?_, ?_⟩
          · rw [putRec_low hl' (by rw [List.length_take]; omega) (by rw [List.length_take]; omega) (by omega) j h1 h2 h3]
            exact hlow j h1 h2 h3
          · rw [htk]
            exact hBody.put hl' hfk hrp
        case measure => simp [intOf]; omega
      · obtain rfl : k = l.length := by omega
        go_wp2
        go_end0
        exact ⟨rfl, hC, pg', hB, hl', hlow, by rwa [List.take_length] at hBody⟩

end Go.Proofs.YtpcaadipejnllaaGreatDoor

/- Numbers of pages as values; costs; what is allowed. -/
set_option linter.unusedVariables false
set_option linter.unusedSimpArgs false
namespace Go.Proofs.YtpcaadipejnllaaGreatDoor
open Go.RowKit

set_option maxRecDepth 100000 in
set_option maxHeartbeats 1000000 in
theorem cost_w (x : Pr) (w : World) (h1 : x.1.size ≤ 24) (h2 : x.2.size ≤ 40) : Calls Tryz.prog 176 #[.string x.1, .string x.2] w fun e w' => e = .returned (.int .i64 (costP x)) ∧ w = w' := by
  have hr : costP x = 1 + (nw x.1.size + nw x.2.size) := rfl
  have hn1 : nw x.1.size ≤ 3 := nw_le (by omega)
  have hn2 : nw x.2.size ≤ 5 := nw_le (by omega)
  go_enter Tryz.func176, Tryz.ntmps176
  go_wp2_with (go_at_call 136; refine (words_w _ _ (by omega) (by omega)).mono ?_; rintro e w1 ⟨rfl, rfl⟩; rw [Int.toNat_natCast])
  go_ret
  exact ⟨by rw [hr]; go_num, rfl⟩

/-- The value of a page's number. -/
def numS (n : Nat) : ByteArray := ⟨#[0, 0, 0, 0, 0, 0, UInt8.ofNat (n / 256), UInt8.ofNat (n % 256)]⟩
theorem numS_size (n : Nat) : (numS n).size = 8 := rfl
theorem numS_byte (n j : Nat) (hj : j < 8) : byteAt (numS n) j = if j = 6 then n / 256 % 256 else if j = 7 then n % 256 % 256 else 0 := by
  have : j = 0 ∨ j = 1 ∨ j = 2 ∨ j = 3 ∨ j = 4 ∨ j = 5 ∨ j = 6 ∨ j = 7 := by omega
  have h8 := numS_size n
  rcases this with rfl | rfl | rfl | rfl | rfl | rfl | rfl | rfl
  · rw [← byteAt_in (numS n) (j := 0) (by omega)]; rfl
  · rw [← byteAt_in (numS n) (j := 1) (by omega)]; rfl
  · rw [← byteAt_in (numS n) (j := 2) (by omega)]; rfl
  · rw [← byteAt_in (numS n) (j := 3) (by omega)]; rfl
  · rw [← byteAt_in (numS n) (j := 4) (by omega)]; rfl
  · rw [← byteAt_in (numS n) (j := 5) (by omega)]; rfl
  · rw [← byteAt_in (numS n) (j := 6) (by omega)]; exact UInt8.toNat_ofNat'
  · rw [← byteAt_in (numS n) (j := 7) (by omega)]; exact UInt8.toNat_ofNat'

theorem wpList_conv {ops : Array Oper} {rest : List Oper} {o : Oper} {a : Act} {w : World} {Q : Exit → Act → World → Prop} (hgd : o.guard = none) (x : Operand) (ho : o.op = .convert 86 9 x) (s : ByteArray) (g off n c : Nat)
    (hx : a.eval x = .slice (some ⟨g, off, none⟩) n c) (hn : n = s.size) (hc : ∀ j, j < s.size → w.cell? ⟨g, off + j, none⟩ = some (.int .u8 (byteAt s j : Nat)))
    (h : wpList Tryz.prog ops Q rest (a.put o.dst (.string s)) w) : wpList Tryz.prog ops Q (o :: rest) a w := by
  subst hn
  refine wpList_plain hgd fun K hK => ?_
  unfold Oper.wp execOp
  simp only [ho, hx, Sem.run_bind, conv_back s w g off c hc, Result.andThen_ok]
  exact hK _ _ h

set_option maxRecDepth 100000 in
set_option maxHeartbeats 1000000 in
theorem number_w (n : Nat) (w : World) (h1 : 1 ≤ n) (h2 : n ≤ 511) : Calls Tryz.prog 178 #[.int .i64 n] w fun e w' => e = .returned (.tuple #[.string (numS n), .int .i64 0]) ∧ Chg [] w w' := by
  have hB : Blk (w.alloc (.cells #[.int .u8 0, .int .u8 0, .int .u8 0, .int .u8 0, .int .u8 0, .int .u8 0, .int .u8 ((n : Int) / 256), .int .u8 ((n : Int) % 256)] 5)) w.heap.size 5 _ := Blk.new w 5 _
  have hc : ∀ j, j < (numS n).size → (w.alloc (.cells #[.int .u8 0, .int .u8 0, .int .u8 0, .int .u8 0, .int .u8 0, .int .u8 0, .int .u8 ((n : Int) / 256), .int .u8 ((n : Int) % 256)] 5)).cell? ⟨w.heap.size, 0 + j, none⟩ = some (.int .u8 (byteAt (numS n) j : Nat)) := fun j hj => by
    rw [numS_size] at hj
    rw [hB.cell, numS_byte n j hj]
    have : j = 0 ∨ j = 1 ∨ j = 2 ∨ j = 3 ∨ j = 4 ∨ j = 5 ∨ j = 6 ∨ j = 7 := by omega
    rcases this with rfl | rfl | rfl | rfl | rfl | rfl | rfl | rfl
    · rfl
    · rfl
    · rfl
    · rfl
    · rfl
    · rfl
    · show some (Value.int .u8 ((n : Int) / 256)) = some (Value.int .u8 ((n / 256 % 256 : Nat) : Int))
      congr 2; omega
    · show some (Value.int .u8 ((n : Int) % 256)) = some (Value.int .u8 ((n % 256 % 256 : Nat) : Int))
      congr 2; omega
  have Hc := Lib.hid hc
  clear hB hc
  go_enter Tryz.func178, Tryz.ntmps178
  go_wp2_with (refine wpList_conv rfl (.tmp 15) rfl (numS n) w.heap.size 0 8 8 rfl rfl Hc.out ?_)
  go_ret2
  exact ⟨rfl, (Chg.refl _ _).alloc _⟩

theorem i64_or_small (a b : Nat) (ha : a < 65536) (hb : b < 65536) : bits .or .i64 (a : Int) (b : Int) = ((a ||| b : Nat) : Int) := by
  have hx : a ||| b < 2 ^ 16 := Nat.or_lt_two_pow (by omega) (by omega)
  show IntKind.i64.wrap ((BitVec.ofInt 64 (a : Int) ||| BitVec.ofInt 64 (b : Int)).toNat : Int) = _
  rw [BitVec.toNat_or, ofInt_u64 a (by omega), ofInt_u64 b (by omega), IntKind.wrap_i64]
  omega
theorem num_or (n a b : Nat) (h : n ≤ 511) (ha : a = n / 256 % 256) (hb : b = n % 256 % 256) : bits .or .i64 (IntKind.i64.wrap (IntKind.i64.wrap (a : Int) * 256)) (IntKind.i64.wrap (b : Int)) = (n : Int) := by
  have e1 : IntKind.i64.wrap (a : Int) = (a : Int) := wrap_nat a (by omega)
  have e2 : IntKind.i64.wrap (b : Int) = (b : Int) := wrap_nat b (by omega)
  have e3 : IntKind.i64.wrap ((a : Int) * 256) = ((a * 256 : Nat) : Int) := by rw [show (a : Int) * 256 = ((a * 256 : Nat) : Int) by omega]; exact wrap_nat _ (by omega)
  rw [e1, e2, e3, i64_or_small _ _ (by omega) (by omega)]
  have : a * 256 ||| b = a * 256 + b := by rw [show a * 256 = a <<< 8 by rw [Nat.shiftLeft_eq], Nat.shiftLeft_add_eq_or_of_lt (by omega) a]
  rw [this]
  omega
theorem num_or2 (n a b : Nat) (h : n ≤ 511) (ha : a = n / 256 % 256) (hb : b = n % 256 % 256) : bits .or .i64 ((a : Int) * 256) (b : Int) = (n : Int) := by
  have := num_or n a b h ha hb
  have e1 : IntKind.i64.wrap (a : Int) = (a : Int) := wrap_nat a (by omega)
  have e2 : IntKind.i64.wrap (b : Int) = (b : Int) := wrap_nat b (by omega)
  have e3 : IntKind.i64.wrap ((a : Int) * 256) = ((a : Int) * 256) := by rw [show (a : Int) * 256 = ((a * 256 : Nat) : Int) by omega]; exact wrap_nat _ (by omega)
  rwa [e1, e2, e3] at this
theorem number_v (n : Nat) (z : Int) (w : World) (h1 : 1 ≤ n) (h2 : n ≤ 511) (hz : z = (n : Int)) : Calls Tryz.prog 178 #[.int .i64 z] w fun e w' => e = .returned (.tuple #[.string (numS n), .int .i64 0]) ∧ Chg [] w w' := hz ▸ number_w n w h1 h2

set_option maxRecDepth 100000 in
set_option maxHeartbeats 1000000 in
theorem child_w (n : Nat) (w : World) (h1 : 1 ≤ n) (h2 : n ≤ 511) : Calls Tryz.prog 211 #[.string (numS n)] w fun e w' => e = .returned (.bool true) ∧ Chg [] w w' := by
  have hs := numS_size n
  have b6 : ((numS n)[6]'(by omega)).toNat = n / 256 % 256 := by rw [byteAt_in (numS n) (by omega), numS_byte n 6 (by omega)]; rfl
  have b7 : ((numS n)[7]'(by omega)).toNat = n % 256 % 256 := by rw [byteAt_in (numS n) (by omega), numS_byte n 7 (by omega)]; rfl
  have B6 := Lib.hid b6
  have B7 := Lib.hid b7
  clear b6 b7
  go_enter Tryz.func211, Tryz.ntmps211
  go_wp2
  go_region_with (go_at_call 178; refine (number_v n _ _ h1 h2 (num_or n _ _ h2 B6.out B7.out)).mono ?_; rintro e w1 ⟨rfl, hC⟩)
  all_goals
    go_wp2
    go_ret
    exact ⟨by simp, (Chg.refl [] w).drew.trans hC⟩

end Go.Proofs.YtpcaadipejnllaaGreatDoor

/- What a page allows. -/
set_option linter.unusedVariables false
set_option linter.unusedSimpArgs false
namespace Go.Proofs.YtpcaadipejnllaaGreatDoor
open Go.RowKit

theorem nonemp {s : ByteArray} (h : 0 < s.size) : s.toList.isEmpty = false := by
  rw [ByteArray.toList_eq]
  cases hc : s.data.toList with
  | nil =>
    have h2 : s.data.toList.length = s.size := by simp
    rw [hc] at h2
    simp at h2
    omega
  | cons _ _ => rfl
theorem isemp {s : ByteArray} (h : s.size = 0) : s.toList.isEmpty = true := by
  rw [empty_of h, ByteArray.toList_eq]; rfl

/-- Values of an inner page's entry. -/
def IsNum (v : ByteArray) : Prop := ∃ n, 1 ≤ n ∧ n ≤ 511 ∧ v = numS n

set_option maxRecDepth 100000 in
set_option maxHeartbeats 1000000 in
theorem allowed_leaf (i : Int) (x : Pr) (w : World) (h : OkP x) (hk : 0 < x.1.size) :
    Calls Tryz.prog 202 #[.bool true, .int .i64 i, .string x.1, .string x.2] w fun e w' => e = .returned (.int .i64 0) ∧ Chg [] w w' := by
  obtain ⟨o1, o2, o3⟩ := h
  obtain ⟨k, v⟩ := x
  simp only at o1 o2 o3 hk
  have hne := nonemp hk
  have hd : decide (v.size ≤ 40) = true := decide_eq_true o2
  go_enter Tryz.func202, Tryz.ntmps202
  go_wp2_with (go_at_call 79; refine (validvalue_w v _).mono ?_; rintro e w1 ⟨rfl, rfl⟩)
  go_ret
  exact ⟨rfl, Chg.refl _ _⟩

set_option maxRecDepth 100000 in
set_option maxHeartbeats 1000000 in
theorem allowed_inner (i : Int) (x : Pr) (w : World) (h : OkP x) (hk : (i = 0 ∧ x.1.size = 0) ∨ 0 < x.1.size) (hv : IsNum x.2) :
    Calls Tryz.prog 202 #[.bool false, .int .i64 i, .string x.1, .string x.2] w fun e w' => e = .returned (.int .i64 0) ∧ Chg [] w w' := by
  obtain ⟨o1, o2, o3⟩ := h
  obtain ⟨k, v⟩ := x
  obtain ⟨n, n1, n2, rfl⟩ := hv
  simp only at o1 o2 o3 hk
  have hd : decide ((numS n).size ≤ 40) = true := decide_eq_true o2
  rcases hk with ⟨rfl, hk⟩ | hk
  · have hne := isemp hk
    go_enter Tryz.func202, Tryz.ntmps202
    go_wp2_with (first
      | (go_at_call 211; refine (child_w n _ n1 n2).mono ?_; rintro e w1 ⟨rfl, hC⟩)
      | (go_at_call 79; refine (validvalue_w _ _).mono ?_; rintro e w1 ⟨rfl, rfl⟩))
    go_ret
    exact ⟨rfl, hC⟩
  · have hne := nonemp hk
    go_enter Tryz.func202, Tryz.ntmps202
    go_wp2_with (first
      | (go_at_call 211; refine (child_w n _ n1 n2).mono ?_; rintro e w1 ⟨rfl, hC⟩)
      | (go_at_call 79; refine (validvalue_w _ _).mono ?_; rintro e w1 ⟨rfl, rfl⟩))
    go_ret
    exact ⟨rfl, hC⟩

end Go.Proofs.YtpcaadipejnllaaGreatDoor
