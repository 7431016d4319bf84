/- A cell is written. -/
import Derived.Test.YtpcaadipejnllaaGreatDoorPart10
import Derived.Test.YtpcaadipejnllaaGreatDoorPart02
import Derived.Laws.AppendOwnNone
import Derived.Lib.AppendStr
import Derived.Lib.ReplaceLaws
import Derived.Deep.MidRow
import Derived.Lib.AppendZeros
import Derived.Laws.StructEq

set_option linter.unusedVariables false
set_option linter.unusedSimpArgs false
namespace Go.Proofs.YtpcaadipejnllaaGreatDoor
open Go.RowKit

/-- The cells that occur: a number, a number with a sign, a text. -/
inductive Cl where
  | u (n : Nat)
  | i (z : Int)
  | t (s : ByteArray)
def Cl.kd : Cl → Int
  | .u _ => 1
  | .i _ => 2
  | .t _ => 3
def Cl.cs : Cl → Array Value
  | .u n => #[.int .i64 1, .int .u64 n, .int .i64 0, .string ⟨#[]⟩, .bool false]
  | .i z => #[.int .i64 2, .int .u64 0, .int .i64 z, .string ⟨#[]⟩, .bool false]
  | .t s => #[.int .i64 3, .int .u64 0, .int .i64 0, .string s, .bool false]
def Cl.Ok : Cl → Prop
  | .u n => n < 65536
  | .i z => -32768 ≤ z ∧ z ≤ 32767
  | .t s => s.size ≤ 10
def inv8 (l : List UInt8) : List UInt8 := l.map fun b => UInt8.ofNat (255 - b.toNat)
def enc : Cl → List UInt8
  | .u n => UInt8.ofNat (digs n).length :: digs n
  | .i z => if 0 ≤ z then UInt8.ofNat (128 + (digs z.toNat).length) :: digs z.toNat else UInt8.ofNat (127 - (digs (-(z + 1)).toNat).length) :: inv8 (digs (-(z + 1)).toNat)
  | .t s => esc s.data.toList ++ [0, 1]
theorem digs_len (n : Nat) : (digs n).length ≤ 2 := by unfold digs; split <;> (try split) <;> simp

/-- The program's own variable that the search reads. -/
def Gv (w : World) : Prop := ∃ m : Int, w.cell? ⟨0, 0, none⟩ = some (.int .i64 m)
theorem Gv.chg {S : List Nat} {w w' : World} (h : Gv w) (hC : Chg S w w') (h0 : 0 ∉ S) : Gv w' := by
  obtain ⟨m, hm⟩ := h
  exact ⟨m, by rw [hC.cell (block_lt_of_cell hm) h0]; exact hm⟩

/-- What a cell's bytes behind others are in memory. -/
def Putted (base : Nat) (L : List UInt8) (v : Value) (w : World) (e : Ending) (w' : World) : Prop := ∃ v', e = .returned v' ∧ w'.ownsRow base 5 1 v' L.length (bys L) ∧ Below base w w'
theorem below_chg {B : Nat} {a w w' : World} {S : List Nat} (h : Below B a w) (hC : Chg S w w') (hB : B ≤ w.heap.size) (hS : ∀ i ∈ S, B ≤ i) : Below B a w' := h.trans ⟨hC.os, hC.tape, hC.output, hC.size, fun k hk => hC.block k (by omega) (fun hm => by have := hS k hm; omega)⟩

/-- Bytes of an own row behind those of another one. -/
theorem wpList_append_bys {w : World} {ops : Array Oper} {rest : List Oper} {o : Oper} {a : Act} {Q : Exit → Act → World → Prop} (hgd : o.guard = none) (s x : Operand)
    (ho : o.op = .call { callee := .builtin .append, args := #[s, x], argTypes := #[86, 86] })
    (base b2 : Nat) (v u : Value) (L M : List UInt8) (hs : a.eval s = v) (hown : w.ownsRow base 5 1 v L.length (bys L)) (hx : a.eval x = u) (hown2 : w.ownsRow b2 5 1 u M.length (bys M)) (hL : L.length ≤ 2000) (hM : M.length ≤ 2000) (hbase : base ≤ w.heap.size)
    (h : ∀ v' w', w'.ownsRow base 5 1 v' (L ++ M).length (bys (L ++ M)) → Chg v.ownBlock.toList w w' → wpList Tryz.prog ops Q rest (a.put o.dst v') w') : wpList Tryz.prog ops Q (o :: rest) a w := by
  obtain ⟨i0, hi, hz0, hz1, hz2⟩ := info_parts info5
  obtain ⟨hl2, h2⟩ := id hown2
  rcases h2 with ⟨rfl, h0⟩ | ⟨g, c, cur, rfl, hbg, hg', hn, hm, hz, ht⟩
  · have hM0 : M = [] := List.eq_nil_of_length_eq_zero h0
    subst hM0
    refine wpList_append_own_none hgd s x 86 ho base 5 i0 1 Tryz.underlying86 hi v _ _ hs hown hx ?_
    exact h v w (by simpa using hown) (Chg.refl _ _)
  · have hg : Blk w g 5 cur := hg'
    refine wpList_append_own w hgd s x 86 ho base 5 i0 (.int .u8 0) 1 1 Tryz.underlying86 hi hz0 hz1 hz2 rfl (by decide) v L.length (bys L) hs hown ⟨g, 0, none⟩ M.length c (bys M) hx (by rw [bys_len, Nat.mul_one]) (fun j z hj => ?_) (bys_one M) (by unfold maxLen; omega) (by omega) hbase (fun v' w' h3 h4 _ => h v' w' (by rw [List.length_append, bys_app]; exact h3) (Chg.of_grown h4))
    rw [add_mk, Nat.zero_add, hg.cell]
    rw [← ht, List.getElem?_take] at hj
    split at hj
    · rw [← Array.getElem?_toList]; exact hj
    · cases hj
/-- One new byte behind others. -/
theorem wpList_append_byte {w : World} {ops : Array Oper} {rest : List Oper} {o : Oper} {a : Act} {Q : Exit → Act → World → Prop} (hgd : o.guard = none) (s x : Operand)
    (ho : o.op = .call { callee := .builtin .append, args := #[s, x], argTypes := #[86, 86] })
    (base g : Nat) (v : Value) (L : List UInt8) (M : List UInt8) (m : Nat) (hm : M.length = m) (hs : a.eval s = v) (hown : w.ownsRow base 5 1 v L.length (bys L)) (hx : a.eval x = .slice (some ⟨g, 0, none⟩) m m) (hg : Blk w g 5 (bys M).toArray) (hL : L.length ≤ 2000) (hM : M.length ≤ 2000) (hbase : base ≤ w.heap.size)
    (h : ∀ v' w', w'.ownsRow base 5 1 v' (L ++ M).length (bys (L ++ M)) → Chg v.ownBlock.toList w w' → wpList Tryz.prog ops Q rest (a.put o.dst v') w') : wpList Tryz.prog ops Q (o :: rest) a w := by
  obtain ⟨i0, hi, hz0, hz1, hz2⟩ := info_parts info5
  subst hm
  refine wpList_append_own w hgd s x 86 ho base 5 i0 (.int .u8 0) 1 1 Tryz.underlying86 hi hz0 hz1 hz2 rfl (by decide) v L.length (bys L) hs hown ⟨g, 0, none⟩ M.length M.length (bys M) hx (by rw [bys_len, Nat.mul_one]) (fun j z hj => ?_) (bys_one M) (by unfold maxLen; omega) (by omega) hbase (fun v' w' h3 h4 _ => h v' w' (by rw [List.length_append, bys_app]; exact h3) (Chg.of_grown h4))
  rw [add_mk, Nat.zero_add, hg.cell]
  simpa using hj

set_option maxRecDepth 100000 in
set_option maxHeartbeats 1000000 in
theorem put_u (base : Nat) (L : List UInt8) (n : Nat) (v : Value) (w : World) (hown : w.ownsRow base 5 1 v L.length (bys L)) (hb : base ≤ w.heap.size) (hl : L.length ≤ 1000) (hn : n < 65536) :
    Calls Tryz.prog 76 #[v, .agg (Cl.u n).cs] w (Putted base (L ++ enc (.u n)) v w) := by
  have hB : Blk (w.alloc (.cells (Cl.u n).cs 62)) w.heap.size 62 (Cl.u n).cs := Blk.new _ _ _
  have hown0 := hown.alloc (.cells (Cl.u n).cs 62)
  have c0 : _ = some (Value.int .i64 1) := hB.cell 0
  have c1 : _ = some (Value.int .u64 n) := hB.cell 1
  have hdl := digs_len n
  have hw1 : IntKind.u8.wrap ((digs n).length : Int) = ((digs n).length : Int) := by rw [IntKind.wrap_u8]; omega
  have hw2 : ((UInt8.ofNat (digs n).length).toNat : Int) = ((digs n).length : Int) := by simp; omega
  have hby : bys [UInt8.ofNat (digs n).length] = [.int .u8 ((digs n).length : Int)] := by simp [bys]; omega
  go_enter Tryz.func76, Tryz.ntmps76
  go_wp2_with (first
    | (go_at_call 111; refine (digs_w n _ hn).mono ?_; rintro e w1 ⟨v1, rfl, hown1, hC1⟩; obtain ⟨A1, d1, rfl, e1, e2⟩ := (Sl.own hown1).form; have hown2 := own_ext hown0 hC1)
    | (at_builtin; refine wpList_append_byte rfl _ _ rfl base w1.heap.size v L [UInt8.ofNat (digs n).length] 1 rfl rfl (hown2.alloc _) rfl (hby ▸ Blk.new w1 5 _) (by omega) (by simp) (by have := hC1.size; simp at this ⊢; omega) ?_; intro v2 w2 hown3 hC2)
    | (at_builtin; refine wpList_append_bys rfl _ _ rfl base _ v2 _ _ (digs n) rfl hown3 rfl (own_chg (hown1.alloc _) hC2 (fun k hk hm => by (have h1 := (hown1.lt k hk).1; have h2 := (hown.lt k (by simpa using hm)).2; simp at h1; omega))) (by simp; omega) (by omega) (by (have h1 := hC1.size; have h2 := hC2.size; simp at h1 h2; omega)) ?_; intro v3 w3 hown4 hC3))
  go_ret
  refine ⟨v3, rfl, by simpa [enc] using hown4, ?_⟩
  have s1 := hC1.size
  have s2 := hC2.size
  simp at s1 s2
  have hBa : Below base w (w1.alloc (.cells #[.int .u8 (digs n).length] 5)) := below_chg (Below.refl base w) ((((Chg.refl [] w).alloc _).nil hC1).alloc _) hb (by simp)
  exact below_chg (below_chg hBa hC2 (by simp; omega) (fun i hi => (hown.lt i (by simpa using hi)).1)) hC3 (by omega) (fun i hi => (hown3.lt i (by simpa using hi)).1)

end Go.Proofs.YtpcaadipejnllaaGreatDoor

/- A cell is written: a number with a sign; a text. -/
set_option linter.unusedVariables false
set_option linter.unusedSimpArgs false
namespace Go.Proofs.YtpcaadipejnllaaGreatDoor
open Go.RowKit

set_option maxRecDepth 100000 in
set_option maxHeartbeats 1000000 in
theorem put_pos (base : Nat) (L : List UInt8) (n : Nat) (v : Value) (w : World) (hown : w.ownsRow base 5 1 v L.length (bys L)) (hb : base ≤ w.heap.size) (hl : L.length ≤ 1000) (hn : n < 65536) :
    Calls Tryz.prog 76 #[v, .agg (Cl.i n).cs] w (Putted base (L ++ enc (.i n)) v w) := by
  have hB : Blk (w.alloc (.cells (Cl.i n).cs 62)) w.heap.size 62 (Cl.i n).cs := Blk.new _ _ _
  have hown0 := hown.alloc (.cells (Cl.i n).cs 62)
  have c0 : _ = some (Value.int .i64 2) := hB.cell 0
  have c1 : _ = some (Value.int .i64 n) := hB.cell 2
  have hdl := digs_len n
  have hw1 : IntKind.u8.wrap (128 + ((digs n).length : Int)) = 128 + ((digs n).length : Int) := by rw [IntKind.wrap_u8]; omega
  have hw0 : IntKind.u64.wrap (n : Int) = n := by rw [IntKind.wrap_u64]; omega
  have hw3 : IntKind.i64.wrap (128 + ((digs n).length : Int)) = 128 + ((digs n).length : Int) := by rw [IntKind.wrap_i64]; omega
  have hby : bys [UInt8.ofNat (128 + (digs n).length)] = [.int .u8 (128 + (digs n).length : Int)] := by simp [bys]; omega
  have he : enc (.i n) = UInt8.ofNat (128 + (digs n).length) :: digs n := by simp [enc]
  go_enter Tryz.func76, Tryz.ntmps76
  go_wp2_with (first
    | (go_at_call 111; refine (digs_w n _ hn).mono ?_; rintro e w1 ⟨v1, rfl, hown1, hC1⟩; obtain ⟨A1, d1, rfl, e1, e2⟩ := (Sl.own hown1).form; have hown2 := own_ext hown0 hC1)
    | (at_builtin; refine wpList_append_byte rfl _ _ rfl base w1.heap.size v L [UInt8.ofNat (128 + (digs n).length)] 1 rfl rfl (hown2.alloc _) rfl (hby ▸ Blk.new w1 5 _) (by omega) (by simp) (by have := hC1.size; simp at this ⊢; omega) ?_; intro v2 w2 hown3 hC2)
    | (at_builtin; refine wpList_append_bys rfl _ _ rfl base _ v2 _ _ (digs n) rfl hown3 rfl (own_chg (hown1.alloc _) hC2 (fun k hk hm => by (have h1 := (hown1.lt k hk).1; have h2 := (hown.lt k (by simpa using hm)).2; simp at h1; omega))) (by simp; omega) (by omega) (by (have h1 := hC1.size; have h2 := hC2.size; simp at h1 h2; omega)) ?_; intro v3 w3 hown4 hC3))
  go_ret
  refine ⟨v3, rfl, by rw [he]; simpa using hown4, ?_⟩
  have s1 := hC1.size
  have s2 := hC2.size
  simp at s1 s2
  have hBa : Below base w (w1.alloc (.cells #[.int .u8 (128 + (digs n).length : Int)] 5)) := below_chg (Below.refl base w) ((((Chg.refl [] w).alloc _).nil hC1).alloc _) hb (by simp)
  exact below_chg (below_chg hBa hC2 (by simp; omega) (fun i hi => (hown.lt i (by simpa using hi)).1)) hC3 (by omega) (fun i hi => (hown3.lt i (by simpa using hi)).1)

/-- The first k digits turned. -/
def tu (D : List UInt8) (k : Nat) : List UInt8 := inv8 (D.take k) ++ D.drop k
theorem tu_len (D : List UInt8) (k : Nat) : (tu D k).length = D.length := by simp [tu, inv8]; omega
theorem tu_at (D : List UInt8) (k : Nat) (hk : k < D.length) : (tu D k)[k]? = some D[k] := by
  have : (inv8 (D.take k)).length = k := by simp [inv8]; omega
  rw [tu, List.getElem?_append_right (by omega), this, Nat.sub_self, List.getElem?_drop, Nat.add_zero, List.getElem?_eq_getElem hk]
theorem tu_succ (D : List UInt8) (k : Nat) (hk : k < D.length) : (tu D k).set k (UInt8.ofNat (255 - D[k].toNat)) = tu D (k + 1) := by
  have h1 : (inv8 (D.take k)).length = k := by simp [inv8]; omega
  unfold tu
  rw [List.set_append_right _ _ (by omega), h1, Nat.sub_self, List.drop_eq_getElem_cons hk, List.set_cons_zero, List.take_succ_eq_append_getElem hk]
  simp only [inv8, List.map_append, List.map_cons, List.map_nil, List.append_assoc, List.singleton_append]
theorem bys_set (L : List UInt8) (k : Nat) (b : UInt8) : (bys L).set k (.int .u8 (b.toNat : Int)) = bys (L.set k b) := by simp [bys, List.map_set]

set_option maxRecDepth 100000 in
set_option maxHeartbeats 1000000 in
theorem put_neg (base : Nat) (L : List UInt8) (n : Nat) (v : Value) (w : World) (hown : w.ownsRow base 5 1 v L.length (bys L)) (hb : base ≤ w.heap.size) (hl : L.length ≤ 1000) (hn : n < 32768) :
    Calls Tryz.prog 76 #[v, .agg (Cl.i (-(n : Int) - 1)).cs] w (Putted base (L ++ enc (.i (-(n : Int) - 1))) v w) := by
  have hB : Blk (w.alloc (.cells (Cl.i (-(n : Int) - 1)).cs 62)) w.heap.size 62 (Cl.i (-(n : Int) - 1)).cs := Blk.new _ _ _
  have hown0 := hown.alloc (.cells (Cl.i (-(n : Int) - 1)).cs 62)
  have c0 : _ = some (Value.int .i64 2) := hB.cell 0
  have c1 : _ = some (Value.int .i64 (-(n : Int) - 1)) := hB.cell 2
  have hdl := digs_len n
  have hw0 : IntKind.u64.wrap (n : Int) = n := by rw [IntKind.wrap_u64]; omega
  have hw4 : IntKind.i64.wrap (-(n : Int) - 1 + 1) = -(n : Int) := by rw [IntKind.wrap_i64]; omega
  have hw5 : IntKind.i64.wrap (n : Int) = n := by rw [IntKind.wrap_i64]; omega
  have hw6 : IntKind.i64.wrap (- -(n : Int)) = n := by rw [IntKind.wrap_i64]; omega
  have hw7 : IntKind.i64.wrap (-(n : Int)) = -n := by rw [IntKind.wrap_i64]; omega
  have hneg : decide ((0 : Int) ≤ -(n : Int) - 1) = false := decide_eq_false (by omega)
  have he : enc (.i (-(n : Int) - 1)) = UInt8.ofNat (127 - (digs n).length) :: inv8 (digs n) := by
    have h1 : ¬ (0 : Int) ≤ -(n : Int) - 1 := by omega
    have h2 : (-(-(n : Int) - 1 + 1)).toNat = n := by omega
    simp only [enc]
    rw [if_neg h1, h2]
  obtain ⟨z, hz⟩ : ∃ z, z = -(n : Int) - 1 := ⟨_, rfl⟩
  go_enter Tryz.func76, Tryz.ntmps76
  go_wp2_with (first
    | (go_at_call 111; refine (digs_w n _ (by omega)).mono ?_; rintro e w1 ⟨v1, rfl, hown1, hC1⟩; have hown2 := own_ext hown0 hC1; obtain ⟨A1, d1, rfl, e1, e2⟩ := (Sl.own hown1).form))
  have hs1 := hC1.size
  have hil : (inv8 (digs n)).length = (digs n).length := by simp [inv8]
  have hw1 : IntKind.u8.wrap (127 - ((digs n).length : Int)) = 127 - ((digs n).length : Int) := by rw [IntKind.wrap_u8]; omega
  have hw3 : IntKind.i64.wrap (127 - ((digs n).length : Int)) = 127 - ((digs n).length : Int) := by rw [IntKind.wrap_i64]; omega
  have hby : bys [UInt8.ofNat (127 - (digs n).length)] = [.int .u8 (127 - (digs n).length : Int)] := by simp [bys]; omega
  rcases hown1.2 with ⟨hv, h0⟩ | ⟨g, c, cur, hv, hbg, hg', hnc, hm, hz, ht⟩
  · injection hv with hv1 hv2 hv3
    subst hv1 hv3
    have hD : digs n = [] := List.eq_nil_of_length_eq_zero h0
    rw [hD] at hown1 hby hw1 hw3 he ⊢
    clear hz
    refine wp_loop_rounds 1 ?_
    rw [rounds_succ]
    go_wp2_with (first
      | (at_builtin; refine wpList_append_byte rfl _ _ rfl base w1.heap.size v L [UInt8.ofNat (127 - ([] : List UInt8).length)] 1 rfl rfl (hown2.alloc _) rfl (hby ▸ Blk.new w1 5 _) (by omega) (by simp) (by simp at hs1 ⊢; omega) ?_; intro v2 w2 hown3 hC2)
      | (at_builtin; refine wpList_append_bys rfl _ _ rfl base 0 v2 _ _ [] rfl hown3 rfl (World.ownsRow_nil _ _ _ _) (by simp; omega) (by simp) (by (have h2 := hC2.size; simp at hs1 h2; omega)) ?_; intro v3 w3 hown4 hC3))
    go_ret
    refine ⟨v3, rfl, by rw [he]; simpa [inv8] using hown4, ?_⟩
    have s2 := hC2.size
    simp at s2 hs1
    have hBa : Below base w (w1.alloc (.cells #[.int .u8 (127 - ((([] : List UInt8).length : Nat) : Int))] 5)) := below_chg (Below.refl base w) ((((Chg.refl [] w).alloc _).nil hC1).alloc _) hb (by simp)
    exact below_chg (below_chg hBa hC2 (by simp; omega) (fun i hi => (hown.lt i (by simpa using hi)).1)) hC3 (by omega) (fun i hi => (hown3.lt i (by simpa using hi)).1)
  · injection hv with hv1 hv2 hv3
    subst hv1 hv3
    have hg : Blk w1 g 5 cur := hg'
    have Ht := Lib.hid ht
    have Hz := Lib.hid hz
    clear hg' ht hz hv2
    go_loopw [50] (fun i wr => ∃ k : Nat, k ≤ (digs n).length ∧ i = .int .i64 k ∧ Chg [g] w1 wr ∧ ∃ cur', Blk wr g 5 cur' ∧ cur'.size = cur.size ∧ cur'.toList.take (digs n).length = bys (tu (digs n) k)) (fun i _ => (digs n).length - (intOf i).toNat)
    case atStart => exact ⟨0, by omega, rfl, Chg.refl _ _, cur, hg, rfl, by have := Ht.out; simpa [tu, inv8] using this⟩
    case round =>
      obtain ⟨k, hk, rfl, hCl, cur', hgr, hcs, hct⟩ := hrel
      have hzz := Hz.out
      have hcs2 : (digs n).length ≤ cur'.size := by omega
      by_cases hlt : k < (digs n).length
      · have hat : cur'[k]? = some (.int .u8 ((digs n)[k].toNat : Int)) := by
          have := congrArg (·[k]?) hct
          rw [List.getElem?_take, if_pos hlt, Array.getElem?_toList] at this
          rw [this]
          simp [bys, tu_at _ k hlt]
        have hcc : wr.cell? ⟨g, k, none⟩ = some (.int .u8 ((digs n)[k].toNat : Int)) := by rw [hgr.cell]; exact hat
        have hb8 := UInt8.toNat_lt (digs n)[k]
        have hww : IntKind.u8.wrap (255 - ((digs n)[k].toNat : Int)) = ((255 - (digs n)[k].toNat : Nat) : Int) := by rw [IntKind.wrap_u8]; omega
        have Hc := Lib.hid hct
        have Hcs := Lib.hid hcs
        have Ha := Lib.hid hat
        clear hct hcs hat hw1 hw3 hby
        go_wp2_with (first
          | (refine wpList_store_one rfl 5 (.tmp 60) (.tmp 59) rfl g k rfl (.int .u8 ((255 - (digs n)[k].toNat : Nat) : Int)) rfl 5 _ hgr (by omega) (by kernel_rfl) rfl ?_; intro w3 hC3 hs3 hg3))
        go_roundw
        case rel =>
          refine ⟨k + 1, by omega, by go_num, hCl.trans hC3, _, hg3, by have := Hcs.out; simp [this], ?_⟩
          have hq : ((UInt8.ofNat (255 - (digs n)[k].toNat)).toNat : Int) = ((255 - (digs n)[k].toNat : Nat) : Int) := by rw [UInt8.toNat_ofNat']; omega
          rw [Array.toList_setIfInBounds, List.take_set, Hc.out, ← tu_succ _ k hlt, ← bys_set, hq]
        case measure => simp [intOf]; omega
      · obtain rfl : k = (digs n).length := by omega
        have hrow : wr.ownsRow (w.alloc (.cells (Cl.i (-(n : Int) - 1)).cs 62)).heap.size 5 1 (.slice (some ⟨g, 0, none⟩) (digs n).length d1) (inv8 (digs n)).length (bys (inv8 (digs n))) := by
          refine ⟨by rw [bys_len, Nat.mul_one], .inr ⟨g, d1, cur', by rw [hil], hbg, hgr, by omega, hm, by omega, ?_⟩⟩
          rw [hil, Nat.mul_one, hct]
          simp [tu]
        have hownr := own_chg hown2 hCl (fun k hk hm => by (have h1 := (hown.lt k hk).2; have : k = g := by simpa using hm); simp at hbg; omega)
        have hsr := hCl.size
        have Hc := Lib.hid hct
        have Hcs := Lib.hid hcs
        clear hct hcs
        go_wp2_with (first
          | (at_builtin; refine wpList_append_byte rfl _ _ rfl base wr.heap.size v L [UInt8.ofNat (127 - (digs n).length)] 1 rfl rfl (hownr.alloc _) rfl (hby ▸ Blk.new wr 5 _) (by omega) (by simp) (by simp at hs1 ⊢; omega) ?_; intro v2 w2 hown3 hC2)
          | (at_builtin; refine wpList_append_bys rfl _ _ rfl base _ v2 _ _ (inv8 (digs n)) rfl hown3 rfl (own_chg (hrow.alloc _) hC2 (fun k hk hm => by (have h1 := (hrow.lt k hk).1; have h2 := (hown.lt k (by simpa using hm)).2; simp at h1; omega))) (by simp; omega) (by omega) (by (have h2 := hC2.size; simp at hs1 h2; omega)) ?_; intro v3 w3 hown4 hC3))
        go_ret
        refine ⟨v3, rfl, by rw [he]; simpa using hown4, ?_⟩
        have s2 := hC2.size
        simp at s2 hs1 hbg
        have hBr : Below base w wr := below_chg (below_chg (Below.refl base w) (((Chg.refl [] w).alloc _).nil hC1) hb (by simp)) hCl (by omega) (by simp; omega)
        have hBa : Below base w (wr.alloc (.cells #[.int .u8 (127 - (((digs n).length : Nat) : Int))] 5)) := below_chg hBr ((Chg.refl [] wr).alloc _) (by omega) (by simp)
        exact below_chg (below_chg hBa hC2 (by simp; omega) (fun i hi => (hown.lt i (by simpa using hi)).1)) hC3 (by omega) (fun i hi => (hown3.lt i (by simpa using hi)).1)

end Go.Proofs.YtpcaadipejnllaaGreatDoor

/- A text's cell is written; cells are written. -/
set_option linter.unusedVariables false
set_option linter.unusedSimpArgs false
namespace Go.Proofs.YtpcaadipejnllaaGreatDoor
open Go.RowKit

theorem strCells_of (l : List UInt8) : Lib.strCells ⟨l.toArray⟩ = bys l := by simp [Lib.strCells, bys]

set_option maxRecDepth 100000 in
set_option maxHeartbeats 1000000 in
theorem put_t (base : Nat) (L : List UInt8) (s : ByteArray) (v : Value) (w : World) (hown : w.ownsRow base 5 1 v L.length (bys L)) (hb : base ≤ w.heap.size) (hl : L.length ≤ 1000) (hs : s.size ≤ 10) (hG : Gv w) :
    Calls Tryz.prog 76 #[v, .agg (Cl.t s).cs] w (Putted base (L ++ enc (.t s)) v w) := by
  obtain ⟨i0, hi, hz0, hz1, hz2⟩ := info_parts info5
  have hB : Blk (w.alloc (.cells (Cl.t s).cs 62)) w.heap.size 62 (Cl.t s).cs := Blk.new _ _ _
  have hown0 := hown.alloc (.cells (Cl.t s).cs 62)
  have c0 : _ = some (Value.int .i64 3) := hB.cell 0
  have c1 : _ = some (Value.string s) := hB.cell 3
  obtain ⟨m, hm⟩ := hG.chg ((Chg.refl [] w).alloc (.cells (Cl.t s).cs 62)) (by simp)
  have hrl : (esc s.data.toList).length ≤ 2 * s.size := by have := esc_len s.data.toList; simpa using this
  have hce : Lib.replaceAll s.data.toList [0] [0, 255] = esc s.data.toList := esc_rep _
  have hcb : Lib.countB s ⟨#[0]⟩ ≤ s.size := by have := Lib.countB_mul_le ⟨#[0]⟩ (by decide) s.size s (Nat.le_refl _); have e : (⟨#[0]⟩ : ByteArray).size = 1 := rfl; rw [e, Nat.mul_one] at this; exact this
  have hby : bys [0, 1] = [.int .u8 0, .int .u8 1] := rfl
  have hez : (⟨(esc s.data.toList).toArray⟩ : ByteArray).size = (esc s.data.toList).length := by show (esc s.data.toList).toArray.size = _; rw [List.size_toArray]
  have Hm := Lib.hid hm
  clear hm
  go_enter Tryz.func76, Tryz.ntmps76
  go_wp2_with (first
    | (go_at_call 112; go_loud (refine (Tryz.strings_ReplaceAll s ⟨#[0]⟩ ⟨#[0, 255]⟩ m _ (by omega) Hm.out (by decide) (by have : (⟨#[0, 255]⟩ : ByteArray).size = 2 := rfl; rw [this]; omega)).mono ?_; rintro e w1 ⟨rfl, hC1'⟩; have hC1 := Chg.of_below hC1'; have hown2 := own_ext hown0 hC1))
    | (at_builtin; (refine Lib.wpList_append_own_string _ rfl _ _ 86 9 rfl base 5 i0 Tryz.underlying86 Tryz.underlying9 hi hz0 hz1 hz2 v _ _ rfl hown2 ⟨(esc s.data.toList).toArray⟩ rfl (by rw [hez]; unfold maxLen; omega) (by rw [hez]; omega) (by have := hC1.size; simp at this; omega) ?_; intro v2 w2 hown3' hg2 _; have hC2 := Chg.of_grown hg2; have hown3 : w2.ownsRow base 5 1 v2 (L ++ esc s.data.toList).length (bys (L ++ esc s.data.toList)) := (by rw [List.length_append, bys_app, ← strCells_of (esc s.data.toList)]; exact hown3'); clear hown3'))
    | (at_builtin; (refine wpList_append_byte rfl _ _ rfl base w2.heap.size v2 (L ++ esc s.data.toList) [0, 1] 2 rfl rfl (hown3.alloc _) rfl (hby ▸ Blk.new w2 5 _) (by simp; omega) (by simp) (by have := hC1.size; have := hC2.size; simp at *; omega) ?_; intro v3 w3 hown4 hC3)))
  go_ret
  refine ⟨v3, rfl, by simpa [enc] using hown4, ?_⟩
  have s1 := hC1.size
  have s2 := hC2.size
  simp at s1 s2
  have hBa : Below base w w1 := below_chg (Below.refl base w) (((Chg.refl [] w).alloc _).nil hC1) hb (by simp)
  have hBb : Below base w (w2.alloc (.cells #[.int .u8 0, .int .u8 1] 5)) := below_chg (below_chg hBa hC2 (by omega) (fun i hi => (hown.lt i (by simpa using hi)).1)) ((Chg.refl [] w2).alloc _) (by omega) (by simp)
  exact below_chg hBb hC3 (by simp; omega) (fun i hi => (hown3.lt i (by simpa using hi)).1)

end Go.Proofs.YtpcaadipejnllaaGreatDoor

/- Cells are written: the key or the value of a row. -/
set_option linter.unusedVariables false
set_option linter.unusedSimpArgs false
namespace Go.Proofs.YtpcaadipejnllaaGreatDoor
open Go.RowKit

theorem putc_w (base : Nat) (L : List UInt8) (c : Cl) (v : Value) (w : World) (hown : w.ownsRow base 5 1 v L.length (bys L)) (hb : base ≤ w.heap.size) (hl : L.length ≤ 1000) (hc : c.Ok) (hG : Gv w) :
    Calls Tryz.prog 76 #[v, .agg c.cs] w (Putted base (L ++ enc c) v w) := by
  cases c with
  | u n => exact put_u base L n v w hown hb hl hc
  | t s => exact put_t base L s v w hown hb hl hc hG
  | i z =>
    obtain ⟨h1, h2⟩ : -32768 ≤ z ∧ z ≤ 32767 := hc
    by_cases h : 0 ≤ z
    · obtain ⟨n, rfl⟩ := Int.eq_ofNat_of_zero_le h
      exact put_pos base L n v w hown hb hl (by omega)
    · obtain ⟨n, hn⟩ := Int.eq_ofNat_of_zero_le (show 0 ≤ -z - 1 by omega)
      obtain rfl : z = -(n : Int) - 1 := by omega
      exact put_neg base L n v w hown hb hl (by omega)

theorem enc_len {c : Cl} (h : c.Ok) : (enc c).length ≤ 22 := by
  cases c with
  | u n => have := digs_len n; simp [enc]; omega
  | i z =>
    have := digs_len z.toNat
    have := digs_len (-(z + 1)).toNat
    simp only [enc]
    split <;> simp [inv8] <;> omega
  | t s =>
    have h : s.size ≤ 10 := h
    have := esc_len s.data.toList
    have h2 : s.data.toList.length = s.size := by simp
    simp [enc]
    simp at this
    omega

/-- The cells of a list, one after the other. -/
def cls (l : List Cl) : List Value := l.flatMap fun c => c.cs.toList
def encs (l : List Cl) : List UInt8 := l.flatMap enc
theorem cs_len (c : Cl) : c.cs.toList.length = 5 := by cases c <;> rfl
theorem cs_size (c : Cl) : c.cs.size = 5 := by cases c <;> rfl
theorem cs_one (c : Cl) : c.cs.all (·.oneCell') = true := by cases c <;> simp [Cl.cs, Value.oneCell']
theorem cls_cons (c : Cl) (l : List Cl) : cls (c :: l) = c.cs.toList ++ cls l := by simp [cls]
theorem cls_len (l : List Cl) : (cls l).length = l.length * 5 := by
  induction l with
  | nil => rfl
  | cons c l ih => rw [cls_cons, List.length_append, ih, cs_len, List.length_cons]; omega
theorem cls_get (l : List Cl) (k : Nat) (c : Cl) (h : l[k]? = some c) (j : Nat) (hj : j < 5) : (cls l)[k * 5 + j]? = c.cs.toList[j]? := by
  induction l generalizing k with
  | nil => simp at h
  | cons d l ih =>
    rw [cls_cons]
    cases k with
    | zero =>
      simp at h
      subst h
      rw [List.getElem?_append_left (by rw [cs_len]; omega)]
      simp
    | succ k =>
      rw [List.getElem?_append_right (by rw [cs_len]; omega), cs_len, show (k + 1) * 5 + j - 5 = k * 5 + j by omega]
      exact ih k (by simpa using h)
theorem run_load62 (w : World) (b o : Nat) (c : Cl) (h : ∀ j, j < 5 → w.cell? ⟨b, o + j, none⟩ = c.cs.toList[j]?) : (Instr.loadAt 62 (.pointer (some ⟨b, o, none⟩))).run Tryz.prog w = .ok (.agg c.cs) w := by
  have h := run_loadAt_mid (P := Tryz.prog) w b o 62 c.cs.toList _ (fun j v hv => by
    have hj : j < 5 := by have := (List.getElem?_eq_some_iff.1 hv).1; rw [cs_len] at this; exact this
    rw [h j hj]; exact hv) Tryz.underlying62 rfl (by rw [cs_len]; kernel_rfl)
  rw [Array.toArray_toList] at h
  exact h
theorem wpList_load_cl {ops : Array Oper} {rest : List Oper} {op : Oper} {a : Act} {w : World} {Q : Exit → Act → World → Prop} (hgd : op.guard = none) (x : Operand) (ho : op.op = .load 62 x)
    (b o : Nat) (hx : a.eval x = .pointer (some ⟨b, o, none⟩)) (c : Cl) (hc : ∀ j, j < 5 → w.cell? ⟨b, o + j, none⟩ = c.cs.toList[j]?) (h : wpList Tryz.prog ops Q rest (a.put op.dst (.agg c.cs)) w) : wpList Tryz.prog ops Q (op :: rest) a w := by
  refine Go.wpList_load_mid hgd 62 x ho b o hx c.cs.toList _ (fun j v hv => ?_) Tryz.underlying62 rfl (by rw [cs_len]; kernel_rfl) (by rw [Array.toArray_toList]; exact h)
  have hj : j < 5 := by have := (List.getElem?_eq_some_iff.1 hv).1; rw [cs_len] at this; exact this
  rw [hc j hj]; exact hv
theorem encs_snoc (l : List Cl) (k : Nat) (c : Cl) (h : l[k]? = some c) : encs (l.take (k + 1)) = encs (l.take k) ++ enc c := by
  have hk := (List.getElem?_eq_some_iff.1 h).1
  rw [List.take_succ_eq_append_getElem hk, (List.getElem?_eq_some_iff.1 h).2]
  simp [encs]
theorem encs_len {l : List Cl} (h : ∀ c ∈ l, c.Ok) : (encs l).length ≤ 22 * l.length := by
  induction l with
  | nil => simp [encs]
  | cons c l ih =>
    have h1 := enc_len (h c (by simp))
    have h2 := ih (fun d hd => h d (by simp [hd]))
    simp only [encs, List.flatMap_cons, List.length_append, List.length_cons] at h2 ⊢
    omega

theorem Sl.below {w w' : World} {size n base : Nat} {v : Value} {xs : List Value} (h : Sl w size v n xs) (hB : Below base w w') (hv : ∀ k, v.ownBlock = some k → k < base) : Sl w' size v n xs := by
  obtain ⟨hl, A, c, rfl, h1, h2, h3⟩ := h
  refine ⟨hl, A, c, rfl, h1, h2, ?_⟩
  rcases h3 with h3 | ⟨b, o, rfl, hb, hx⟩
  · exact .inl h3
  · refine .inr ⟨b, o, rfl, Nat.lt_of_lt_of_le hb hB.size, fun j hj => ?_⟩
    rw [← hx j hj]
    exact hB.cell (p := ⟨b, o + j, none⟩) (hv b rfl)

set_option maxRecDepth 100000 in
set_option maxHeartbeats 1000000 in
theorem puts_w (base : Nat) (L : List UInt8) (l : List Cl) (b v : Value) (w : World) (hown : w.ownsRow base 5 1 b L.length (bys L)) (hb : base ≤ w.heap.size) (hb0 : 0 < base) (hL : L.length ≤ 100) (hS : Sl w 5 v l.length (cls l)) (hv : ∀ k, v.ownBlock = some k → k < base) (hl : l.length ≤ 20) (ho : ∀ c ∈ l, c.Ok) (hG : Gv w) :
    Calls Tryz.prog 31 #[b, v] w fun e w' => e = .returned (.string ⟨(L ++ encs l).toArray⟩) ∧ Below base w w' := by
  obtain ⟨A, c, rfl, hc1, hc2⟩ := hS.form
  go_enter Tryz.func31, Tryz.ntmps31
  go_wp2
  go_loopw [0, 9] (fun b i wr => ∃ k : Nat, k ≤ l.length ∧ i = .int .i64 k ∧ wr.ownsRow base 5 1 b (L ++ encs (l.take k)).length (bys (L ++ encs (l.take k))) ∧ Below base w wr) (fun _ i _ => l.length - (intOf i).toNat)
  case atStart => exact ⟨0, by omega, rfl, by simpa [encs] using hown, Below.refl _ _⟩
  case round =>
    obtain ⟨k, hk, rfl, hownr, hBr⟩ := hrel
    have hSr := hS.below hBr hv
    have hsz := hBr.size
    have hGr : Gv wr := by
      obtain ⟨m, hm⟩ := hG
      exact ⟨m, by rw [hBr.cell (p := ⟨0, 0, none⟩) hb0]; exact hm⟩
    have hel := encs_len (l := l.take k) (fun c hc => ho c (List.mem_of_mem_take hc))
    by_cases hlt : k < l.length
    · obtain ⟨s, o, rfl, hs, hx⟩ := hSr.at_ (by omega)
      obtain ⟨d, hd⟩ : ∃ d, l[k]? = some d := ⟨_, List.getElem?_eq_getElem hlt⟩
      have hld : ∀ j, j < 5 → wr.cell? ⟨s, o + k * 5 + j, none⟩ = d.cs.toList[j]? := fun j hj => by rw [Nat.add_assoc, hx _ (by omega)]; exact cls_get l k d hd j hj
      have Hld := Lib.hid hld
      clear hld
      have hod := ho d (List.mem_of_getElem? hd)
      have hes := encs_snoc l k d hd
      have hcz := cs_size d
      have Hes := Lib.hid hes
      have hkl : (l.take k).length = k := by simp; omega
      rw [hkl] at hel
      clear hes hx hd hkl
      go_wp2_with (first
        | (refine wpList_load_cl rfl (.tmp 11) rfl s (o + k * 5) rfl d Hld.out ?_)
        | (refine wpList_store_blk rfl 62 (.tmp 6) (.tmp 12) rfl wr.heap.size rfl d.cs rfl 62 _ (Blk.new wr 62 _) (hcz ▸ (by kernel_rfl)) (by rw [hcz]; rfl) (cs_one d) ?_; intro w2 hC2 hs2 hB2)
        | (refine wpList_load_row rfl 62 (.tmp 6) rfl wr.heap.size rfl 62 d.cs (0, 0) _ hB2 Tryz.underlying62 rfl (hcz ▸ (by kernel_rfl)) ?_)
        | (go_at_call 76; refine (putc_w base _ d _ _ (own_chg (hownr.alloc _) hC2 (fun q hq hm => by (have h1 := (hownr.lt q hq).2; have h2 : q = wr.heap.size := by simpa using hm); omega)) (by have := hC2.size; simp at this; omega) (by simp; omega) hod ((hGr.chg ((Chg.refl [] wr).alloc _) (by simp)).chg hC2 (by simp; omega))).mono ?_; rintro e w3 ⟨v3, rfl, hown3, hB3⟩))
      go_roundw
      case rel =>
        refine ⟨k + 1, by omega, by go_num, ?_, ?_⟩
        · rw [Hes.out, ← List.append_assoc]; exact hown3
        · exact (below_chg (below_chg hBr ((Chg.refl [] wr).alloc _) (by omega) (by simp)) hC2 (by simp; omega) (by simp; omega)).trans hB3
      case measure => simp [intOf]; omega
    · obtain rfl : k = l.length := by omega
      rw [List.take_length] at hownr
      obtain ⟨M, hM⟩ : ∃ M, M = L ++ encs l := ⟨_, rfl⟩
      rw [← hM] at hownr
      have HM := Lib.hid hM
      clear hM
      rcases id hownr.2 with ⟨rfl, h0⟩ | ⟨g, c2, cur, rfl, hbg, hg', hn, hm, hz, ht⟩
      · have hnil : M = [] := List.eq_nil_of_length_eq_zero h0
        have q := conv_nil wr 0
        go_wp2
        go_ret
        rw [← HM.out, hnil]
        exact ⟨rfl, hBr⟩
      · have hg : Blk wr g 5 cur := hg'
        have q := run_convert_bytes_back (P := Tryz.prog) wr 86 9 5 ⟨g, 0, none⟩ c2 (M) Tryz.underlying86 Tryz.underlying5 Tryz.underlying9 (fun j hj => by
          rw [add_mk, Nat.zero_add, hg.cell]
          have := congrArg (·[j]?) ht
          rw [List.getElem?_take, if_pos (by omega), Array.getElem?_toList] at this
          rw [this]
          simp only [bys]
          rw [List.getElem?_map, List.getElem?_eq_getElem hj]
          rfl)
        clear ht
        go_wp2
        go_ret
        rw [← HM.out]
        exact ⟨rfl, hBr⟩

end Go.Proofs.YtpcaadipejnllaaGreatDoor

/- The kinds of a table's cells: Concat, Valid. -/
set_option linter.unusedVariables false
set_option linter.unusedSimpArgs false
namespace Go.Proofs.YtpcaadipejnllaaGreatDoor
open Go.RowKit

theorem info59 : (Tryz.prog.info? 59).map (fun i => (i.zero, i.size, i.bytes)) = some (some (.int .i64 0), 1, 8) := by kernel_rfl
theorem ints_one (l : List Int) : ∀ u ∈ ints l, u.oneCell' = true := by
  intro u hu
  simp [ints] at hu
  obtain ⟨_, _, rfl⟩ := hu
  rfl

/-- The slice v has the kinds ks: none at all, or as they lie. -/
def KS (w : World) (v : Value) (ks : List Int) : Prop :=
  (v = .slice none 0 0 ∧ ks = []) ∨ (0 < ks.length ∧ ∃ b o c, v = .slice (some ⟨b, o, none⟩) ks.length c ∧ ks.length ≤ c ∧ c ≤ maxLen ∧ b < w.heap.size ∧ ∀ j, j < ks.length → w.cell? ⟨b, o + j, none⟩ = (ints ks)[j]?)
section
variable {w w' : World} {v : Value} {ks : List Int}
theorem KS.chg {S : List Nat} (h : KS w v ks) (hC : Chg S w w') (hn : ∀ k, v.ownBlock = some k → k ∉ S) : KS w' v ks := by
  rcases h with h | ⟨h0, b, o, c, rfl, h1, h2, h3, h4⟩
  · exact .inl h
  · exact .inr ⟨h0, b, o, c, rfl, h1, h2, Nat.lt_of_lt_of_le h3 hC.size, fun j hj => by rw [hC.cell h3 (hn b rfl)]; exact h4 j hj⟩
theorem KS.ext (h : KS w v ks) (hC : Chg [] w w') : KS w' v ks := h.chg hC (by simp)
theorem KS.alloc (h : KS w v ks) (o : Obj) : KS (w.alloc o) v ks := h.ext ((Chg.refl _ _).alloc o)
theorem KS.below {B : Nat} (h : KS w v ks) (hC : Below B w w') (hn : ∀ k, v.ownBlock = some k → k < B) : KS w' v ks := by
  rcases h with h | ⟨h0, b, o, c, rfl, h1, h2, h3, h4⟩
  · exact .inl h
  · exact .inr ⟨h0, b, o, c, rfl, h1, h2, Nat.lt_of_lt_of_le h3 hC.size, fun j hj => by rw [← h4 j hj]; exact hC.cell (p := ⟨b, o + j, none⟩) (hn b rfl)⟩
theorem KS.own {base : Nat} (h : w.ownsRow base 59 1 v ks.length (ints ks)) (h0 : 0 < ks.length) : KS w v ks := by
  rcases h.2 with ⟨_, h1⟩ | ⟨g, c, cur, rfl, hbg, hg', hn, hm, hz, ht⟩
  · omega
  · have hg : Blk w g 59 cur := hg'
    refine .inr ⟨h0, g, 0, c, rfl, hn, hm, hg.lt, fun j hj => ?_⟩
    rw [Nat.zero_add, hg.cell, ← ht, List.getElem?_take, if_pos (by omega), Array.getElem?_toList]
theorem KS.form (h : KS w v ks) : ∃ A c, v = .slice A ks.length c ∧ ks.length ≤ c ∧ c ≤ maxLen := by
  rcases h with ⟨rfl, rfl⟩ | ⟨h0, b, o, c, rfl, h1, h2, h3, h4⟩
  · exact ⟨none, 0, rfl, by simp, by simp⟩
  · exact ⟨_, c, rfl, h1, h2⟩
theorem KS.lt (h : KS w v ks) : ∀ k, v.ownBlock = some k → k < w.heap.size := by
  rcases h with ⟨rfl, rfl⟩ | ⟨h0, b, o, c, rfl, h1, h2, h3, h4⟩
  · intro k hk; cases hk
  · intro k hk
    have : b = k := by simpa [Value.ownBlock] using hk
    omega
theorem KS.one (h : KS w v ks) : v.oneCell' = true := by
  obtain ⟨A, c, rfl, _, _⟩ := h.form
  rfl
theorem KS.at_ (h : KS w v ks) (k : Nat) (z : Int) (hk : ks[k]? = some z) : ∃ b o c, v = .slice (some ⟨b, o, none⟩) ks.length c ∧ w.cell? ⟨b, o + k, none⟩ = some (.int .i64 z) := by
  have hl := (List.getElem?_eq_some_iff.1 hk).1
  rcases h with ⟨rfl, rfl⟩ | ⟨h0, b, o, c, rfl, h1, h2, h3, h4⟩
  · simp at hl
  · exact ⟨b, o, c, rfl, by rw [h4 k hl]; simp [ints, hk]⟩
end

theorem wpList_append_ks {w : World} {ops : Array Oper} {rest : List Oper} {o : Oper} {a : Act} {Q : Exit → Act → World → Prop} (hgd : o.guard = none) (s x : Operand)
    (ho : o.op = .call { callee := .builtin .append, args := #[s, x], argTypes := #[35, 35] })
    (base : Nat) (v u : Value) (L M : List Int) (hs : a.eval s = v) (hown : w.ownsRow base 59 1 v L.length (ints L)) (hx : a.eval x = u) (hK : KS w u M) (hL : L.length ≤ 2000) (hM : M.length ≤ 2000) (hbase : base ≤ w.heap.size)
    (h : ∀ v' w', w'.ownsRow base 59 1 v' (L ++ M).length (ints (L ++ M)) → Chg v.ownBlock.toList w w' → wpList Tryz.prog ops Q rest (a.put o.dst v') w') : wpList Tryz.prog ops Q (o :: rest) a w := by
  obtain ⟨i0, hi, hz0, hz1, hz2⟩ := info_parts info59
  rcases hK with ⟨rfl, rfl⟩ | ⟨h0, b, off, c, rfl, h1, h2, h3, h4⟩
  · refine wpList_append_own_none hgd s x 35 ho base 59 i0 1 Tryz.underlying35 hi v _ _ hs hown hx ?_
    exact h v w (by simpa using hown) (Chg.refl _ _)
  · refine wpList_append_own w hgd s x 35 ho base 59 i0 (.int .i64 0) 1 8 Tryz.underlying35 hi hz0 hz1 hz2 rfl (by decide) v L.length (ints L) hs hown ⟨b, off, none⟩ M.length c (ints M) hx (by rw [ints_len, Nat.mul_one]) (fun j z hj => ?_) (ints_one M) (by unfold maxLen; omega) (by omega) hbase (fun v' w' h3 h4 _ => h v' w' (by rw [List.length_append, ints_append]; exact h3) (Chg.of_grown h4))
    have hjl := (List.getElem?_eq_some_iff.1 hj).1
    rw [ints_len] at hjl
    rw [add_mk, h4 j hjl]
    exact hj

set_option maxRecDepth 100000 in
set_option maxHeartbeats 1000000 in
theorem growk_w (n : Nat) (w : World) (h0 : 0 < n) (hn : n ≤ 10000) :
    Calls Tryz.prog 75 #[.slice none 0 0, .int .i64 n] w fun e w' => ∃ c, e = .returned (.slice (some ⟨w.heap.size, 0, none⟩) 0 c) ∧ w'.ownsRow w.heap.size 59 1 (.slice (some ⟨w.heap.size, 0, none⟩) 0 c) 0 [] ∧ n ≤ c ∧ c ≤ maxLen ∧ Chg [] w w' := by
  obtain ⟨i0, hi0, hz0, hz1, hz2⟩ := info_parts info59
  obtain ⟨G, hG⟩ : ∃ G, G = grownCap w n 0 59 := ⟨_, rfl⟩
  obtain ⟨ROW, hROW⟩ : ∃ ROW : Array Value, ROW = Builtin.zeroCells (Value.int .i64 0).cells n ++ Builtin.zeroCells (Value.int .i64 0).cells (G - n) := ⟨_, rfl⟩
  have hGn : n ≤ G := by rw [hG]; exact grownCap_ge w _ _ _
  have hGm : G ≤ maxLen := by rw [hG]; exact grownCap_le_maxLen w n 0 59 (by unfold maxLen; omega)
  have hrz : ∀ ty, (Builtin.append_ #[35, 3] ty #[.slice none 0 0, .int .i64 (n : Int)]).run Tryz.prog w = .ok (.slice (some ⟨w.heap.size, 0, none⟩) n G) (w.drew.alloc (.cells ROW 59)) := fun ty => by
    have h := Lib.run_append_nil_zeros w 35 3 ty 59 i0 _ .i64 .i64 Tryz.underlying35 Tryz.underlying3 hi0 hz0 n h0 (by omega) (by omega) (by rw [hz2]; omega)
    rw [← hG, ← hROW] at h
    exact h
  have hRs : ROW.size = G * 1 := by
    rw [hROW, Array.size_append]
    simp [Builtin.zeroCells, Value.cells]
    omega
  have hGi : ¬ (G = 0) := by omega
  have hG63 : G ≤ 9223372036854775807 := by unfold maxLen at hGm; omega
  have hm0 : n ≤ 9223372036854775807 := by omega
  clear hG hROW
  go_enter Tryz.func75, Tryz.ntmps75
  go_wp2_with (at_builtin; refine Lib.wpList_append_run _ rfl _ _ _ _ rfl _ _ rfl rfl _ _ (hrz _) ?_)
  go_ret
  exact ⟨G, rfl, ⟨rfl, .inr ⟨w.heap.size, G, ROW, rfl, Nat.le_refl _, Blk.drew (Blk.new w 59 ROW), Nat.zero_le _, hGm, hRs, by simp⟩⟩, hGn, hGm, ((Chg.refl [] w).alloc _).drew⟩

theorem growk_v (n : Nat) (z : Int) (w : World) (hz : z = (n : Int)) (h0 : 0 < n) (hn : n ≤ 10000) :
    Calls Tryz.prog 75 #[.slice none 0 0, .int .i64 z] w fun e w' => ∃ c, e = .returned (.slice (some ⟨w.heap.size, 0, none⟩) 0 c) ∧ w'.ownsRow w.heap.size 59 1 (.slice (some ⟨w.heap.size, 0, none⟩) 0 c) 0 [] ∧ n ≤ c ∧ c ≤ maxLen ∧ Chg [] w w' := hz ▸ growk_w n w h0 hn

set_option maxRecDepth 100000 in
set_option maxHeartbeats 1000000 in
theorem concatk_w (l1 l2 : List Int) (v1 v2 : Value) (vb : Nat) (w : World) (hX : Blk w vb 35 #[v1, v2]) (hS1 : KS w v1 l1) (hS2 : KS w v2 l2) (h1 : 0 < l1.length) (hl1 : l1.length ≤ 1000) (hl2 : l2.length ≤ 1000) :
    Calls Tryz.prog 30 #[.slice (some ⟨vb, 0, none⟩) 2 2] w fun e w' => ∃ v', e = .returned v' ∧ w'.ownsRow w.heap.size 59 1 v' (l1 ++ l2).length (ints (l1 ++ l2)) ∧ Chg [] w w' := by
  obtain ⟨A1, c1, rfl, hc1, hm1⟩ := hS1.form
  obtain ⟨A2, c2, rfl, hc2, hm2⟩ := hS2.form
  have x0 := hX.cell 0
  have x1 := hX.cell 1
  have hd : decide ((l1.length : Int) < 0) = false := decide_eq_false (by omega)
  have hw : IntKind.i64.wrap ((l1.length : Int) + (l2.length : Int)) = (l1.length : Int) + (l2.length : Int) := by rw [IntKind.wrap_i64]; omega
  have hd2 : decide ((l1.length : Int) + (l2.length : Int) < 0) = false := decide_eq_false (by omega)
  go_enter Tryz.func30, Tryz.ntmps30
  go_wp2
  refine wp_loop_rounds 3 ?_
  rw [rounds_succ]
  go_wp2
  rw [rounds_succ]
  go_wp2
  rw [rounds_succ]
  go_wp2_with (go_at_call 75; refine (growk_v (l1.length + l2.length) _ _ (by omega) (by omega) (by omega)).mono ?_; rintro e w1 ⟨c, rfl, hown, hcn, hcm, hC1⟩; have y0 := (hX.ext hC1).cell 0; have hK1 := hS1.ext hC1)
  refine wp_loop_rounds 3 ?_
  rw [rounds_succ]
  go_wp2_with (first
    | (at_builtin; refine wpList_append_ks rfl _ _ rfl w.heap.size _ _ [] l1 rfl hown rfl hK1 (by simp) (by omega) hC1.size ?_; intro v2 w2 hown2 hC2))
  rw [rounds_succ]
  have hvl := hX.lt
  have hC2 : Chg [w.heap.size] w1 w2 := hC2
  have hX2 := (hX.ext hC1).chg hC2 (by simp; omega)
  have hK2 := (hS2.ext hC1).chg hC2 (fun k hk => by (have := hS2.lt k hk); simp; omega)
  have z1 := hX2.cell 1
  have hs1 := hC1.size
  have hs2 := hC2.size
  rw [List.nil_append] at hown2
  go_wp2_with (first
    | (at_builtin; refine wpList_append_ks rfl _ _ rfl w.heap.size v2 _ l1 l2 rfl hown2 rfl hK2 (by omega) (by omega) (by omega) ?_; intro v3 w3 hown3 hC3))
  rw [rounds_succ]
  go_wp2
  go_ret
  exact ⟨_, rfl, hown3, (hC1.on hC2 (fun i hi => .inr (by simp at hi; omega))).on hC3 (fun i hi => .inr ((hown2.lt i (by simpa using hi)).1))⟩

set_option maxRecDepth 100000 in
set_option maxHeartbeats 1000000 in
theorem ckind_w (k : Int) (w : World) (h1 : 1 ≤ k) (h2 : k ≤ 4) :
    Calls Tryz.prog 73 #[.int .i64 k] w fun e w' => e = .returned (.bool true) ∧ w = w' := by
  go_enter Tryz.func73, Tryz.ntmps73
  go_wp2
  go_ret
  exact ⟨rfl, rfl⟩

set_option maxRecDepth 100000 in
set_option maxHeartbeats 1000000 in
theorem kindnot_w (k : Int) (w : World) (h1 : 1 ≤ k) (h2 : k ≤ 4) :
    Calls Tryz.prog 72 #[.int .i64 k] w fun e w' => e = .returned (.bool false) ∧ w = w' := by
  go_enter Tryz.func72, Tryz.ntmps72
  go_wp2_with (go_at_call 73; refine (ckind_w k _ h1 h2).mono ?_; rintro e w1 ⟨rfl, rfl⟩)
  go_ret
  exact ⟨rfl, rfl⟩

def KOk (ks : List Int) : Prop := ∀ k ∈ ks, 1 ≤ k ∧ k ≤ 4

set_option maxRecDepth 100000 in
set_option maxHeartbeats 1000000 in
theorem kindex_w (v : Value) (ks : List Int) (w : World) (hK : KS w v ks) (ho : KOk ks) (hl : ks.length ≤ 100) :
    Calls Tryz.prog 110 #[v, .func (.func 72) #[] #[]] w fun e w' => e = .returned (.int .i64 (-1)) ∧ w = w' := by
  obtain ⟨A, c, rfl, hc1, hc2⟩ := hK.form
  go_enter Tryz.func110, Tryz.ntmps110
  go_wp2
  go_loopw [8] (fun i wr => ∃ k : Nat, k ≤ ks.length ∧ i = .int .i64 k ∧ w = wr) (fun i _ => ks.length - (intOf i).toNat)
  case atStart => exact ⟨0, by omega, rfl, rfl⟩
  case round =>
    obtain ⟨k, hk, rfl, rfl⟩ := hrel
    by_cases hlt : k < ks.length
    · obtain ⟨z, hz⟩ : ∃ z, ks[k]? = some z := ⟨_, List.getElem?_eq_getElem hlt⟩
      obtain ⟨b, o, c', hv, hcell⟩ := hK.at_ k z hz
      obtain ⟨o1, o2⟩ := ho z (List.mem_of_getElem? hz)
      injection hv with hv1 hv2 hv3
      subst hv1 hv3
      clear hz hv2
      go_wp2_with (go_at_call 72; refine (kindnot_w z _ o1 o2).mono ?_; rintro e w1 ⟨rfl, rfl⟩)
      go_roundw
      case rel => exact ⟨k + 1, by omega, by go_num, trivial⟩
      case measure => simp [intOf]; omega
    · go_wp2
      go_ret
      exact ⟨rfl, rfl⟩

set_option maxRecDepth 100000 in
set_option maxHeartbeats 1000000 in
theorem kcontains_w (v : Value) (ks : List Int) (w : World) (hK : KS w v ks) (ho : KOk ks) (hl : ks.length ≤ 100) :
    Calls Tryz.prog 71 #[v, .func (.func 72) #[] #[]] w fun e w' => e = .returned (.bool false) ∧ w = w' := by
  go_enter Tryz.func71, Tryz.ntmps71
  go_wp2_with (go_at_call 110; refine (kindex_w v ks _ hK ho hl).mono ?_; rintro e w1 ⟨rfl, rfl⟩)
  go_ret
  exact ⟨rfl, rfl⟩

/-- A table as it is handed on. -/
structure Tb where
  n : Nat
  k : List Int
  r : List Int
structure Tb.Ok (t : Tb) : Prop where
  n1 : 1 ≤ t.n
  n2 : t.n ≤ 255
  k0 : 0 < t.k.length
  k8 : t.k.length ≤ 8
  r8 : t.r.length ≤ 8
  kk : KOk t.k
  rk : KOk t.r
def tbV (t : Tb) (vk vr : Value) : Array Value := #[.int .i64 t.n, vk, vr]

set_option maxRecDepth 100000 in
set_option maxHeartbeats 1000000 in
theorem valid_t (t : Tb) (vk vr : Value) (w : World) (ht : t.Ok) (h1 : KS w vk t.k) (h2 : KS w vr t.r) :
    Calls Tryz.prog 28 #[.agg (tbV t vk vr)] w fun e w' => e = .returned (.bool true) ∧ Chg [] w w' := by
  obtain ⟨n1, n2, k0, k8, r8, kk, rk⟩ := ht
  obtain ⟨A1, c1, rfl, hc1, hm1⟩ := h1.form
  obtain ⟨A2, c2, rfl, hc2, hm2⟩ := h2.form
  have hB : Blk (w.alloc (.cells (tbV t (.slice A1 t.k.length c1) (.slice A2 t.r.length c2)) 37)) w.heap.size 37 (tbV t (.slice A1 t.k.length c1) (.slice A2 t.r.length c2)) := Blk.new _ _ _
  have hC0 : Chg [] w (w.alloc (.cells (tbV t (.slice A1 t.k.length c1) (.slice A2 t.r.length c2)) 37)) := (Chg.refl _ _).alloc _
  have b0 : _ = some (Value.int .i64 t.n) := hB.cell 0
  have b1 : _ = some (Value.slice A1 t.k.length c1) := hB.cell 1
  have b2 : _ = some (Value.slice A2 t.r.length c2) := hB.cell 2
  have hK := fun z hz => (List.mem_append.1 hz).elim (kk z) (rk z)
  go_enter Tryz.func28, Tryz.ntmps28
  go_wp2_with (first
    | (go_at_call 30; go_loud (refine (concatk_w t.k t.r _ _ _ _ (Blk.newEq (by simp)) ((h1.ext hC0).alloc _) ((h2.ext hC0).alloc _) k0 (by omega) (by omega)).mono ?_; rintro e w1 ⟨v', rfl, hown1, hC1⟩; have hKS := KS.own hown1 (by simp; omega)))
    | (go_at_call 71; go_loud (refine (kcontains_w _ (t.k ++ t.r) _ hKS hK (by simp; omega)).mono ?_; rintro e w2 ⟨rfl, rfl⟩)))
  go_ret
  exact ⟨rfl, (hC0.alloc _).trans hC1⟩

end Go.Proofs.YtpcaadipejnllaaGreatDoor

/- Cells of their kinds. -/
set_option linter.unusedVariables false
set_option linter.unusedSimpArgs false
namespace Go.Proofs.YtpcaadipejnllaaGreatDoor
open Go.RowKit

theorem eq62 (xs ys : Array Value) (w : World) : (binOp .eql 62 (.agg xs) (.agg ys)).run Tryz.prog w = ((Op.eqFields 9999 xs ys (Tryz.prog.fieldsOf 62).toList).run Tryz.prog w).andThen fun b w' => .ok (.bool b) w' := by
  have hS : Tryz.prog.underlying 62 = some (.struct (Tryz.prog.fieldsOf 62)) := by kernel_rfl
  have hp : Tryz.prog.stoodInHeld 62 = false := by kernel_rfl
  rw [run_eql_struct, show (10000 : Nat) = 9999 + 1 from rfl, run_equalIn_agg w 9999 62 _ _ hS hp]
theorem eq62c (c : Cl) (w : World) : (binOp .eql 62 (.agg c.cs) (.agg c.cs)).run Tryz.prog w = .ok (.bool true) w := by
  have a59 := Tryz.isAgg59
  rw [eq62]
  simp only [Program.fieldsOf, Tryz.underlying62]
  cases c <;> simp only [Cl.cs] <;> go_simp
theorem wpList_eq62 {w : World} {ops : Array Oper} {rest : List Oper} {o : Oper} {a : Act} {Q : Exit → Act → World → Prop} (hgd : o.guard = none) (x y : Operand) (ty : TypeId) (ho : o.op = .binOp .eql 62 x y ty) (c : Cl) (hx : a.eval x = .agg c.cs) (hy : a.eval y = .agg c.cs)
    (h : wpList Tryz.prog ops Q rest (a.put o.dst (.bool true)) w) : wpList Tryz.prog ops Q (o :: rest) a w := by
  refine wpList_plain hgd fun K hK => ?_
  have hg := run_eqGuard_agg (P := Tryz.prog) (w := w) .eql 62 x y c.cs c.cs Tryz.eqGuardType62
  unfold Oper.wp execOp
  simp only [ho, hx, hy, Sem.run_bind, Sem.run_pure, Result.andThen_ok, hg, eq62c]
  exact hK _ _ h

set_option maxRecDepth 100000 in
set_option maxHeartbeats 1000000 in
theorem proper_u (n : Nat) (w : World) :
    Calls Tryz.prog 74 #[.agg (Cl.u n).cs, .int .i64 1] w fun e w' => e = .returned (.bool true) ∧ Chg [] w w' := by
  have hB : Blk ((w.alloc (.cells (Cl.u n).cs 62)).alloc (.cells #[.int .i64 1, .int .u64 0, .int .i64 0, .string ⟨#[]⟩, .bool false] 62)) w.heap.size 62 (Cl.u n).cs := (Blk.new _ _ _).alloc _
  have hX : Blk ((w.alloc (.cells (Cl.u n).cs 62)).alloc (.cells #[.int .i64 1, .int .u64 0, .int .i64 0, .string ⟨#[]⟩, .bool false] 62)) (w.heap.size + 1) 62 #[.int .i64 1, .int .u64 0, .int .i64 0, .string ⟨#[]⟩, .bool false] := Blk.newEq (by simp)
  have hC : Chg [] w ((w.alloc (.cells (Cl.u n).cs 62)).alloc (.cells #[.int .i64 1, .int .u64 0, .int .i64 0, .string ⟨#[]⟩, .bool false] 62)) := ((Chg.refl _ _).alloc _).alloc _
  have c1 : _ = some (Value.int .u64 n) := hB.cell 1
  go_enter Tryz.func74, Tryz.ntmps74
  go_wp2_with (first
    | (refine wpList_store_one rfl 60 (.tmp 13) (.tmp 12) rfl (w.heap.size + 1) 1 rfl (.int .u64 n) rfl 62 _ hX (by simp) (by kernel_rfl) rfl ?_; intro w2 hC2 hs2 hX2; have hB2 := hB.chg hC2 (by simp))
    | (refine wpList_load_row rfl 62 (.tmp 5) rfl (w.heap.size + 1) rfl 62 _ (0, 0) _ hX2 Tryz.underlying62 rfl (by kernel_rfl) ?_)
    | (refine wpList_load_row rfl 62 (.tmp 2) rfl w.heap.size rfl 62 _ (0, 0) _ hB2 Tryz.underlying62 rfl (by kernel_rfl) ?_)
    | (refine wpList_eq62 rfl (.tmp 29) (.tmp 30) _ rfl (Cl.u n) rfl rfl ?_))
  go_ret
  exact ⟨rfl, hC.on hC2 (fun i hi => .inr (by simp at hi; omega))⟩

set_option maxRecDepth 100000 in
set_option maxHeartbeats 1000000 in
theorem proper_i (z : Int) (w : World) :
    Calls Tryz.prog 74 #[.agg (Cl.i z).cs, .int .i64 2] w fun e w' => e = .returned (.bool true) ∧ Chg [] w w' := by
  have hB : Blk ((w.alloc (.cells (Cl.i z).cs 62)).alloc (.cells #[.int .i64 2, .int .u64 0, .int .i64 0, .string ⟨#[]⟩, .bool false] 62)) w.heap.size 62 (Cl.i z).cs := (Blk.new _ _ _).alloc _
  have hX : Blk ((w.alloc (.cells (Cl.i z).cs 62)).alloc (.cells #[.int .i64 2, .int .u64 0, .int .i64 0, .string ⟨#[]⟩, .bool false] 62)) (w.heap.size + 1) 62 #[.int .i64 2, .int .u64 0, .int .i64 0, .string ⟨#[]⟩, .bool false] := Blk.newEq (by simp)
  have hC : Chg [] w ((w.alloc (.cells (Cl.i z).cs 62)).alloc (.cells #[.int .i64 2, .int .u64 0, .int .i64 0, .string ⟨#[]⟩, .bool false] 62)) := ((Chg.refl _ _).alloc _).alloc _
  have c1 : _ = some (Value.int .i64 z) := hB.cell 2
  go_enter Tryz.func74, Tryz.ntmps74
  go_wp2_with (first
    | (refine wpList_store_one rfl 3 (.tmp 18) (.tmp 17) rfl (w.heap.size + 1) 2 rfl (.int .i64 z) rfl 62 _ hX (by simp) (by kernel_rfl) rfl ?_; intro w2 hC2 hs2 hX2; have hB2 := hB.chg hC2 (by simp))
    | (refine wpList_load_row rfl 62 (.tmp 5) rfl (w.heap.size + 1) rfl 62 _ (0, 0) _ hX2 Tryz.underlying62 rfl (by kernel_rfl) ?_)
    | (refine wpList_load_row rfl 62 (.tmp 2) rfl w.heap.size rfl 62 _ (0, 0) _ hB2 Tryz.underlying62 rfl (by kernel_rfl) ?_)
    | (refine wpList_eq62 rfl (.tmp 29) (.tmp 30) _ rfl (Cl.i z) rfl rfl ?_))
  go_ret
  exact ⟨rfl, hC.on hC2 (fun i hi => .inr (by simp at hi; omega))⟩

set_option maxRecDepth 100000 in
set_option maxHeartbeats 1000000 in
theorem proper_t (s : ByteArray) (w : World) :
    Calls Tryz.prog 74 #[.agg (Cl.t s).cs, .int .i64 3] w fun e w' => e = .returned (.bool true) ∧ Chg [] w w' := by
  have hB : Blk ((w.alloc (.cells (Cl.t s).cs 62)).alloc (.cells #[.int .i64 3, .int .u64 0, .int .i64 0, .string ⟨#[]⟩, .bool false] 62)) w.heap.size 62 (Cl.t s).cs := (Blk.new _ _ _).alloc _
  have hX : Blk ((w.alloc (.cells (Cl.t s).cs 62)).alloc (.cells #[.int .i64 3, .int .u64 0, .int .i64 0, .string ⟨#[]⟩, .bool false] 62)) (w.heap.size + 1) 62 #[.int .i64 3, .int .u64 0, .int .i64 0, .string ⟨#[]⟩, .bool false] := Blk.newEq (by simp)
  have hC : Chg [] w ((w.alloc (.cells (Cl.t s).cs 62)).alloc (.cells #[.int .i64 3, .int .u64 0, .int .i64 0, .string ⟨#[]⟩, .bool false] 62)) := ((Chg.refl _ _).alloc _).alloc _
  have c1 : _ = some (Value.string s) := hB.cell 3
  go_enter Tryz.func74, Tryz.ntmps74
  go_wp2_with (first
    | (refine wpList_store_one rfl 9 (.tmp 23) (.tmp 22) rfl (w.heap.size + 1) 3 rfl (.string s) rfl 62 _ hX (by simp) (by kernel_rfl) rfl ?_; intro w2 hC2 hs2 hX2; have hB2 := hB.chg hC2 (by simp))
    | (refine wpList_load_row rfl 62 (.tmp 5) rfl (w.heap.size + 1) rfl 62 _ (0, 0) _ hX2 Tryz.underlying62 rfl (by kernel_rfl) ?_)
    | (refine wpList_load_row rfl 62 (.tmp 2) rfl w.heap.size rfl 62 _ (0, 0) _ hB2 Tryz.underlying62 rfl (by kernel_rfl) ?_)
    | (refine wpList_eq62 rfl (.tmp 29) (.tmp 30) _ rfl (Cl.t s) rfl rfl ?_))
  go_ret
  exact ⟨rfl, hC.on hC2 (fun i hi => .inr (by simp at hi; omega))⟩

end Go.Proofs.YtpcaadipejnllaaGreatDoor

/- A row's cells are of their kinds. -/
set_option linter.unusedVariables false
set_option linter.unusedSimpArgs false
namespace Go.Proofs.YtpcaadipejnllaaGreatDoor
open Go.RowKit

theorem proper_w (c : Cl) (w : World) : Calls Tryz.prog 74 #[.agg c.cs, .int .i64 c.kd] w fun e w' => e = .returned (.bool true) ∧ Chg [] w w' := by
  cases c with
  | u n => exact proper_u n w
  | i z => exact proper_i z w
  | t s => exact proper_t s w

theorem yieldsIf_load_cl {ops : Array Oper} {S : World → Prop} {op : Oper} {a : Act} (hw : Region.wanted op (yielded ops a.tmps) = true) (x : Operand) (ho : op.op = .load 62 x)
    (b o : Nat) (hx : a.eval x = .pointer (some ⟨b, o, none⟩)) (c : Cl) (hS : ∀ w, S w → Blk w b 62 c.cs) (ho0 : o = 0 := by rfl) : YieldsIf Tryz.prog ops S op (.agg c.cs) a := by
  subst ho0
  have h := yieldsIf_load_mid (P := Tryz.prog) (ops := ops) (S := S) hw 62 x ho b 0 hx c.cs.toList _ (fun w h j v hv => by rw [Nat.zero_add, (hS w h).cell, ← Array.getElem?_toList]; exact hv) Tryz.underlying62 rfl (by rw [cs_len]; kernel_rfl)
  rw [Array.toArray_toList] at h
  exact h

set_option maxRecDepth 100000 in
set_option maxHeartbeats 1000000 in
theorem are_w (l : List Cl) (v vk : Value) (w : World) (hS : Sl w 5 v l.length (cls l)) (hK : KS w vk (l.map Cl.kd)) (hl : l.length ≤ 100) :
    Calls Tryz.prog 29 #[v, vk] w fun e w' => e = .returned (.bool true) ∧ Chg [] w w' := by
  obtain ⟨A, c, rfl, hc1, hc2⟩ := hS.form
  obtain ⟨A2, c2, hvk, hd1, hd2⟩ := hK.form
  rw [List.length_map] at hvk hd1
  subst hvk
  go_enter Tryz.func29, Tryz.ntmps29
  go_wp2
  go_loopw [14] (fun i wr => ∃ k : Nat, k ≤ l.length ∧ i = .int .i64 k ∧ Chg [] w wr) (fun i _ => l.length - (intOf i).toNat)
  case atStart => exact ⟨0, by omega, rfl, Chg.refl _ _⟩
  case round =>
    obtain ⟨k, hk, rfl, hC⟩ := hrel
    have hSr := hS.ext hC
    have hKr := hK.ext hC
    by_cases hlt : k < l.length
    · obtain ⟨s, o', rfl, hs, hx⟩ := hSr.at_ (by omega)
      obtain ⟨d, hd⟩ : ∃ d, l[k]? = some d := ⟨_, List.getElem?_eq_getElem hlt⟩
      have hld : ∀ j, j < 5 → wr.cell? ⟨s, o' + k * 5 + j, none⟩ = d.cs.toList[j]? := fun j hj => by rw [Nat.add_assoc, hx _ (by omega)]; exact cls_get l k d hd j hj
      have Hld := Lib.hid hld
      obtain ⟨b, o, c3, hv, hcell⟩ := hKr.at_ k d.kd (by rw [List.getElem?_map, hd]; rfl)
      rw [List.length_map] at hv
      injection hv with hv1 hv2 hv3
      subst hv1 hv3
      have hcz := cs_size d
      clear hld hx hd hv2
      have hcl : b < wr.heap.size := block_lt_of_cell hcell
      go_upto_region 6 with (first
        | (refine wpList_load_cl rfl (.tmp 17) rfl s (o' + k * 5) rfl d Hld.out ?_)
        | (refine wpList_store_blk rfl 62 (.tmp 6) (.tmp 18) rfl wr.heap.size rfl d.cs rfl 62 _ (Blk.new wr 62 _) (hcz ▸ (by kernel_rfl)) (by rw [hcz]; rfl) (cs_one d) ?_; intro w2 hC2 hs2 hB2))
      have hC12 : Chg [] wr w2 := ((Chg.refl [] wr).alloc _).on hC2 (fun i hi => .inr (by simp at hi; omega))
      have hcell2 : w2.drew.cell? ⟨b, o + k, none⟩ = some (.int .i64 d.kd) := by
        show w2.cell? _ = _
        rw [hC12.cell hcl (by simp)]
        exact hcell
      have hsz2 := hC12.size
      refine wp_region_held_drew (S := fun W => Blk W wr.heap.size 62 d.cs ∧ W.cell? ⟨b, o + k, none⟩ = some (.int .i64 d.kd)) (by kernel_rfl) (⟨hB2.drew, hcell2⟩) (fun hH => ?_)
      refine wpAnyH_take (i := 0) (v := .agg d.cs) rfl (by kernel_rfl) (by kernel_rfl) (by kernel_rfl) (fun _ _ _ h => h) (yieldsIf_load_cl (by rfl) _ rfl wr.heap.size 0 rfl d (fun w h => h.1)) hH ?_
      try simp only [List.getElem_toArray, List.getElem_cons_succ, List.getElem_cons_zero, Act.put, List.setIfInBounds_toArray, List.set_cons_zero, List.set_cons_succ]
      refine wpAnyH_take (i := 1) (v := .slice (some ⟨b, o, none⟩) l.length c2) rfl (by kernel_rfl) (by kernel_rfl) (by kernel_rfl) (fun _ _ _ h => h) (Or.inl ⟨by rfl, fun w' hw' => by go_simp⟩) hH ?_
      try simp only [List.getElem_toArray, List.getElem_cons_succ, List.getElem_cons_zero, Act.put, List.setIfInBounds_toArray, List.set_cons_zero, List.set_cons_succ]
      refine wpAnyH_take (i := 2) (v := .int .i64 k) rfl (by kernel_rfl) (by kernel_rfl) (by kernel_rfl) (fun _ _ _ h => h) (Or.inl ⟨by rfl, fun w' hw' => by go_simp⟩) hH ?_
      try simp only [List.getElem_toArray, List.getElem_cons_succ, List.getElem_cons_zero, Act.put, List.setIfInBounds_toArray, List.set_cons_zero, List.set_cons_succ]
      refine wpAnyH_take (i := 3) (v := .pointer (some ⟨b, o + k, none⟩)) rfl (by kernel_rfl) (by kernel_rfl) (by kernel_rfl) (fun _ _ _ h => h) (Or.inl ⟨by rfl, fun w' hw' => by go_simp⟩) hH ?_
      try simp only [List.getElem_toArray, List.getElem_cons_succ, List.getElem_cons_zero, Act.put, List.setIfInBounds_toArray, List.set_cons_zero, List.set_cons_succ]
      refine wpAnyH_take (i := 4) (v := .int .i64 d.kd) rfl (by kernel_rfl) (by kernel_rfl) (by kernel_rfl) (fun _ _ _ h => h) (yieldsIf_load_cell (by rfl) 59 _ rfl (b) (o + k) rfl _ (fun w' hw' => hw'.2) (fun w => Tryz.isAgg59 w)) hH ?_
      try simp only [List.getElem_toArray, List.getElem_cons_succ, List.getElem_cons_zero, Act.put, List.setIfInBounds_toArray, List.set_cons_zero, List.set_cons_succ]
      refine wpAnyH_ready (rs := [5]) (by kernel_rfl) (by simp) ?_
      refine AllReadyH.cons rfl (fun K hK => ?_) AllReadyH.nil
      go_simp
      refine (proper_w d _).mono ?_
      rintro e w3 ⟨rfl, hC3⟩
      refine hK.out _ _ (⟨hB2.drew.ext hC3, by rw [hC3.cell (by show _ < w2.heap.size; omega) (by simp)]; exact hcell2⟩) (fun hH => ?_)
      clear hK K
      try simp only [List.getElem_toArray, List.getElem_cons_succ, List.getElem_cons_zero, Act.put, List.setIfInBounds_toArray, List.set_cons_zero, List.set_cons_succ]
      refine wpAnyH_take (i := 6) (v := .bool false) rfl (by kernel_rfl) (by kernel_rfl) (by kernel_rfl) (fun _ _ _ h => h) (Or.inl ⟨by rfl, fun w' hw' => by go_simp⟩) hH ?_
      try simp only [List.getElem_toArray, List.getElem_cons_succ, List.getElem_cons_zero, Act.put, List.setIfInBounds_toArray, List.set_cons_zero, List.set_cons_succ]
      refine wpAnyH_done (by kernel_rfl) ?_ _
      go_wp2
      go_roundw
      case rel => exact ⟨k + 1, by omega, by go_num, ((hC.trans hC12).drew).trans hC3⟩
      case measure => simp [intOf]; omega
    · go_wp2
      go_ret
      exact ⟨rfl, hC⟩

end Go.Proofs.YtpcaadipejnllaaGreatDoor
