/- Words for the walks of TopTables: worlds in which some old blocks may have changed, blocks that are known whole, slices that read as lists. -/
import Derived.Test.YtpcaadipejnllaaGreatDoorProg
import Derived.Below
import Derived.WalkKit
import Derived.OwnWalk
import Derived.Outline
import Derived.Deep.Draws
import Derived.Deep.QuietTactic
import Derived.BigQuiet
import Derived.StillTailTactics
import Derived.Laws.OwnMore
import Derived.Laws.Rows
import Derived.Lib.Hide
import Derived.Deep.DeepFit
import Derived.Deep.RegionHeld3
import Derived.Deep.RegionLaw
import Derived.Deep.LoopGhost
import Derived.Deep.DeepCutAuto
import Derived.WalkLawsBesides
import Derived.WalkSpells
import Derived.WalkSmall

namespace Go.Proofs.YtpcaadipejnllaaGreatDoor
open Go.RowKit

/-- The blocks of S apart, what was there is there; new blocks may have come. -/
structure Chg (S : List Nat) (w w' : World) : Prop where
  os : w'.os = w.os
  tape : w'.tape = w.tape
  output : w'.output = w.output
  size : w.heap.size ≤ w'.heap.size
  block : ∀ k, k < w.heap.size → k ∉ S → w'.heap[k]? = w.heap[k]?

theorem Chg.refl (S : List Nat) (w : World) : Chg S w w := ⟨rfl, rfl, rfl, Nat.le_refl _, fun _ _ _ => rfl⟩
theorem Chg.trans {S : List Nat} {a b c : World} (h : Chg S a b) (k : Chg S b c) : Chg S a c :=
  ⟨k.os.trans h.os, k.tape.trans h.tape, k.output.trans h.output, Nat.le_trans h.size k.size,
    fun i hi hn => (k.block i (Nat.lt_of_lt_of_le hi h.size) hn).trans (h.block i hi hn)⟩
/-- A second piece that may change T, each block of T one of S or new. -/
theorem Chg.on {S T : List Nat} {a b c : World} (h : Chg S a b) (k : Chg T b c) (hT : ∀ i ∈ T, i ∈ S ∨ a.heap.size ≤ i) : Chg S a c :=
  ⟨k.os.trans h.os, k.tape.trans h.tape, k.output.trans h.output, Nat.le_trans h.size k.size,
    fun i hi hn => (k.block i (Nat.lt_of_lt_of_le hi h.size) (fun ht => by rcases hT i ht with h1 | h1; exact hn h1; omega)).trans (h.block i hi hn)⟩
theorem Chg.nil {S : List Nat} {a b c : World} (h : Chg S a b) (k : Chg [] b c) : Chg S a c := h.on k (by simp)
theorem Chg.mono {S T : List Nat} {a b : World} (h : Chg T a b) (hT : ∀ i ∈ T, i ∈ S) : Chg S a b :=
  ⟨h.os, h.tape, h.output, h.size, fun i hi hn => h.block i hi (fun ht => hn (hT i ht))⟩
theorem Chg.drew {S : List Nat} {a w : World} (h : Chg S a w) : Chg S a w.drew := ⟨h.os, h.tape, h.output, h.size, h.block⟩
theorem Chg.drewN {S : List Nat} {a w : World} (h : Chg S a w) (n : Nat) : Chg S a (w.drewN n) := ⟨h.os, h.tape, h.output, h.size, h.block⟩
theorem Chg.alloc {S : List Nat} {a w : World} (h : Chg S a w) (o : Obj) : Chg S a (w.alloc o) :=
  h.trans ⟨rfl, rfl, rfl, by simp, fun k hk _ => Below.heap_alloc _ _ _ hk⟩
theorem Chg.set {S : List Nat} {a w : World} (h : Chg S a w) (p : Addr) (hp : p.block ∈ S ∨ a.heap.size ≤ p.block) (u : Value) : Chg S a (w.setCell p u) :=
  h.on (T := [p.block]) ⟨rfl, rfl, rfl, by simp [World.setCell], fun k hk hn => Below.heap_setCell _ _ _ _ (by simpa using hn)⟩ (by simpa using hp)
theorem Chg.grown {S : List Nat} {a w w' : World} {row : Option Nat} (h : Chg S a w) (hg : w.grownBy w' row) (hr : ∀ k, row = some k → k ∈ S ∨ a.heap.size ≤ k) : Chg S a w' :=
  h.on (T := row.toList) ⟨hg.os, hg.tape, hg.output, hg.size, fun k hk hn => hg.block k hk (fun e => hn (by simp [← e]))⟩ (by
    intro i hi
    cases row with
    | none => simp at hi
    | some r => simp at hi; subst hi; exact hr _ rfl)
theorem Chg.below {a w : World} (h : Chg [] a w) : Below a.heap.size a w := ⟨h.os, h.tape, h.output, h.size, fun k hk => h.block k hk (by simp)⟩
theorem Chg.of_below {a w : World} (h : Below a.heap.size a w) : Chg [] a w := ⟨h.os, h.tape, h.output, h.size, fun k hk _ => h.block k hk⟩
theorem Chg.onb {S : List Nat} {a b c : World} (h : Chg S a b) (k : Below b.heap.size b c) : Chg S a c := h.nil (.of_below k)
theorem Chg.cell {S : List Nat} {w w' : World} (h : Chg S w w') {b : Nat} (hb : b < w.heap.size) (hn : b ∉ S) (o : Nat) : w'.cell? ⟨b, o, none⟩ = w.cell? ⟨b, o, none⟩ :=
  World.cell?_of_block (w := w) (h.block b hb hn)
theorem Chg.froz {S : List Nat} {w w' : World} (h : Chg S w w') {b : Nat} (hb : b < w.heap.size) (hn : b ∉ S) (o : Nat) : w'.frozen? ⟨b, o, none⟩ = w.frozen? ⟨b, o, none⟩ :=
  World.frozen?_of_block (w := w) (h.block b hb hn)
theorem Chg.cells {w w' : World} (h : Chg [] w w') : (∀ b o, b < w.heap.size → w'.cell? ⟨b, o, none⟩ = w.cell? ⟨b, o, none⟩) ∧ (∀ b o, b < w.heap.size → w'.frozen? ⟨b, o, none⟩ = w.frozen? ⟨b, o, none⟩) :=
  ⟨fun _ o hb => h.cell hb (by simp) o, fun _ o hb => h.froz hb (by simp) o⟩
/-- Only the draws and new blocks. -/
theorem Chg.toGrown {w w' : World} {b : Nat} (h : Chg [b] w w') : w.grownBy w' (some b) := ⟨h.os, h.tape, h.output, h.size, fun k hk hn => h.block k hk (by simpa using hn)⟩

/-- Block g is just these cells, none frozen. -/
def Blk (w : World) (g : Nat) (t : TypeId) (cs : Array Value) : Prop := w.heap[g]? = some (.cells cs t (0, 0))

section
variable {w w' : World} {g : Nat} {t : TypeId} {cs : Array Value}
theorem Blk.lt (h : Blk w g t cs) : g < w.heap.size := by
  rcases Nat.lt_or_ge g w.heap.size with hlt | hge
  · exact hlt
  · unfold Blk at h; rw [Array.getElem?_eq_none hge] at h; cases h
theorem Blk.cell (h : Blk w g t cs) (i : Nat) : w.cell? ⟨g, i, none⟩ = cs[i]? := cell_of_row w g i cs t (0, 0) h
theorem Blk.frozen (h : Blk w g t cs) (i : Nat) : w.frozen? ⟨g, i, none⟩ = false := by
  unfold Blk at h
  simp [World.frozen?, h]
theorem Blk.new (w : World) (t : TypeId) (cs : Array Value) : Blk (w.alloc (.cells cs t)) w.heap.size t cs := heap_alloc_new w _
theorem Blk.drew (h : Blk w g t cs) : Blk w.drew g t cs := h
theorem Blk.drewN (h : Blk w g t cs) (n : Nat) : Blk (w.drewN n) g t cs := h
theorem Blk.alloc (h : Blk w g t cs) (o : Obj) : Blk (w.alloc o) g t cs := (Below.heap_alloc w o g h.lt).trans h
theorem Blk.set_ (h : Blk w g t cs) (i : Nat) (u : Value) : Blk (w.setCell ⟨g, i, none⟩ u) g t (cs.setIfInBounds i u) := by
  unfold Blk at h ⊢
  simp [World.setCell, Array.getElem?_modify, h]
theorem Blk.far (h : Blk w g t cs) {p : Addr} (hp : g ≠ p.block) (u : Value) : Blk (w.setCell p u) g t cs := (Below.heap_setCell w p u g hp).trans h
theorem Blk.chg {S : List Nat} (h : Blk w g t cs) (hc : Chg S w w') (hn : g ∉ S) : Blk w' g t cs := (hc.block g h.lt hn).trans h
theorem Blk.ext (h : Blk w g t cs) (hc : Chg [] w w') : Blk w' g t cs := h.chg hc (by simp)
theorem Blk.grown {row : Option Nat} (h : Blk w g t cs) (hb : w.grownBy w' row) (hg : some g ≠ row) : Blk w' g t cs := (hb.block g h.lt hg).trans h
theorem Blk.ne_ {g' : Nat} {t' : TypeId} {cs' : Array Value} (h : Blk w g t cs) (h' : Blk w g' t' cs') (hne : t ≠ t') : g ≠ g' := by
  rintro rfl
  unfold Blk at h h'
  rw [h] at h'
  injection h' with h'
  injection h' with _ ht
  exact hne ht
theorem Blk.inj {cs' : Array Value} {t' : TypeId} (h : Blk w g t cs) (h' : Blk w g t' cs') : cs = cs' := by
  unfold Blk at h h'
  rw [h] at h'
  injection h' with h'
  injection h'
end

theorem Blk.setEq {w : World} {g : Nat} {t : TypeId} {cs cs' : Array Value} {i : Nat} {u : Value} (h : Blk w g t cs) (e : cs.setIfInBounds i u = cs') : Blk (w.setCell ⟨g, i, none⟩ u) g t cs' := e ▸ h.set_ i u
theorem Blk.newEq {w : World} {g : Nat} {t : TypeId} {cs : Array Value} (e : g = w.heap.size) : Blk (w.alloc (.cells cs t)) g t cs := e ▸ Blk.new w t cs

/-- Results that lie in blocks: one aggregate; one and a slot; one and two slots; two aggregates. -/
theorem res_row {P : Program} {fn : Func} {p : Tmp} {ty : TypeId} (h : fn.results = #[.cell p ty]) (tmps : Array Value) {w : World} {g : Nat} {t : TypeId} {cs : Array Value} {d : TypeDesc}
    (hg : Blk w g t cs) (hp : tmps.getD p undef = .pointer (some ⟨g, 0, none⟩))
    (hu : P.underlying ty = some d) (hd : (match d with | .struct _ | .array _ _ => true | _ => false) = true) (hi : (P.info? ty).map (·.size) = some cs.size) :
    (results fn tmps).run P w = .ok (.agg cs) w := results_cell_row h tmps w g t cs (0, 0) d hp hg hu hd hi
theorem res_row_tmp {P : Program} {fn : Func} {p u : Tmp} {ty : TypeId} (h : fn.results = #[.cell p ty, .tmp u]) (tmps : Array Value) {w : World} {g : Nat} {t : TypeId} {cs : Array Value} {d : TypeDesc} {v : Value}
    (hg : Blk w g t cs) (hp : tmps.getD p undef = .pointer (some ⟨g, 0, none⟩)) (hv : tmps.getD u undef = v)
    (hu : P.underlying ty = some d) (hd : (match d with | .struct _ | .array _ _ => true | _ => false) = true) (hi : (P.info? ty).map (·.size) = some cs.size) :
    (results fn tmps).run P w = .ok (.tuple #[.agg cs, v]) w := by
  have hp' : tmps[p]?.getD undef = .pointer (some ⟨g, 0, none⟩) := by simpa using hp
  subst hv
  simp [results, h, hp', asAddr, run_loadVar_row w g t ty cs (0, 0) d hg hu hd hi]
theorem res_row_tmp2 {P : Program} {fn : Func} {p u u2 : Tmp} {ty : TypeId} (h : fn.results = #[.cell p ty, .tmp u, .tmp u2]) (tmps : Array Value) {w : World} {g : Nat} {t : TypeId} {cs : Array Value} {d : TypeDesc} {v v2 : Value}
    (hg : Blk w g t cs) (hp : tmps.getD p undef = .pointer (some ⟨g, 0, none⟩)) (hv : tmps.getD u undef = v) (hv2 : tmps.getD u2 undef = v2)
    (hu : P.underlying ty = some d) (hd : (match d with | .struct _ | .array _ _ => true | _ => false) = true) (hi : (P.info? ty).map (·.size) = some cs.size) :
    (results fn tmps).run P w = .ok (.tuple #[.agg cs, v, v2]) w := by
  have hp' : tmps[p]?.getD undef = .pointer (some ⟨g, 0, none⟩) := by simpa using hp
  subst hv hv2
  simp [results, h, hp', asAddr, run_loadVar_row w g t ty cs (0, 0) d hg hu hd hi]
theorem res_row_row {P : Program} {fn : Func} {p p2 : Tmp} {ty ty2 : TypeId} (h : fn.results = #[.cell p ty, .cell p2 ty2]) (tmps : Array Value) {w : World} {g g2 : Nat} {t t2 : TypeId} {cs cs2 : Array Value} {d d2 : TypeDesc}
    (hg : Blk w g t cs) (hp : tmps.getD p undef = .pointer (some ⟨g, 0, none⟩)) (hg2 : Blk w g2 t2 cs2) (hp2 : tmps.getD p2 undef = .pointer (some ⟨g2, 0, none⟩))
    (hu : P.underlying ty = some d) (hd : (match d with | .struct _ | .array _ _ => true | _ => false) = true) (hi : (P.info? ty).map (·.size) = some cs.size)
    (hu2 : P.underlying ty2 = some d2) (hd2 : (match d2 with | .struct _ | .array _ _ => true | _ => false) = true) (hi2 : (P.info? ty2).map (·.size) = some cs2.size) :
    (results fn tmps).run P w = .ok (.tuple #[.agg cs, .agg cs2]) w := by
  have hp' : tmps[p]?.getD undef = .pointer (some ⟨g, 0, none⟩) := by simpa using hp
  have hp2' : tmps[p2]?.getD undef = .pointer (some ⟨g2, 0, none⟩) := by simpa using hp2
  simp [results, h, hp', hp2', asAddr, run_loadVar_row w g t ty cs (0, 0) d hg hu hd hi, run_loadVar_row w g2 t2 ty2 cs2 (0, 0) d2 hg2 hu2 hd2 hi2]

/-- A whole aggregate stored into a block that is known whole. -/
theorem wpList_store_blk {P : Program} {ops : Array Oper} {rest : List Oper} {o : Oper} {a : Act} {w : World} {Q : Exit → Act → World → Prop} (hgd : o.guard = none) (ty : TypeId) (x y : Operand) (ho : o.op = .store ty x y)
    (g : Nat) (hx : a.eval x = .pointer (some ⟨g, 0, none⟩)) (cs' : Array Value) (hy : a.eval y = .agg cs') (t : TypeId) (cs : Array Value) (hg : Blk w g t cs)
    (hi : (P.info? ty).map (·.size) = some cs'.size) (hs : cs.size = cs'.size) (h1 : cs'.all (·.oneCell') = true)
    (h : ∀ w', Chg [g] w w' → w'.heap.size = w.heap.size → Blk w' g t cs' → wpList P ops Q rest (a.put o.dst undef) w') : wpList P ops Q (o :: rest) a w := by
  refine wpList_plain hgd fun K hK => ?_
  have hr := run_storeVar_row (P := P) w g t ty cs cs' hg hi hs h1
  unfold Oper.wp execOp
  simp only [ho, hx, hy, Instr.storeAt, Instr.sureAddr, Sem.run_bind, Sem.run_pure, Result.andThen_ok, hr]
  refine hK _ _ (h _ ⟨rfl, rfl, rfl, by simp, fun k hk hn => ?_⟩ (by simp) ?_)
  · exact setRow_other w g k cs' (by simpa using hn)
  · exact setRow_heap w g cs _ t _ hg
theorem all_one_of {cs : Array Value} (h : ∀ i, i < cs.size → ∃ v : Value, cs[i]? = some v ∧ v.oneCell' = true) : cs.all (·.oneCell') = true := by
  rw [Array.all_eq_true]
  intro i hi
  obtain ⟨v, h1, h2⟩ := h i hi
  rw [Array.getElem?_eq_getElem hi] at h1
  injection h1 with h1
  rw [h1]; exact h2
theorem nums_one (l : List Nat) : ((l.map fun n => Value.int .u64 ((n : Nat) : Int)).toArray).all (·.oneCell') = true := by
  simp [Value.oneCell']

/-- The world gets a name: of it is known what is listed. -/
theorem wp_world {P : Program} {c : Code} {Q : Exit → Act → World → Prop} {a : Act} {w : World} (R : World → Prop) (h : R w) (k : ∀ W, R W → c.wp P Q a W) : c.wp P Q a w := k w h
theorem wpList_world {P : Program} {ops l} {Q : Exit → Act → World → Prop} {a : Act} {w : World} (R : World → Prop) (h : R w) (k : ∀ W, R W → wpList P ops Q l a W) : wpList P ops Q l a w := k w h

/-- A region that draws its order: n operations that leave the world alone, and a forced tail. -/
theorem wp_region_tail {P : Program} {id : Nat} {Q : Exit → Act → World → Prop} {a : Act} {w : World} {l : List Oper} (n : Nat) (hm : P.follows .mixedOrders = true) (hB : Region.lexTailB .any l.toArray n = true)
    (h : wpStill P l.toArray w.drew (fun a' => wpList P l.toArray Q (l.drop n) a' w.drew) (l.take n) a) : (Code.region id l.toArray true).wp P Q a w := wp_region_still_tail n hm hB h

end Go.Proofs.YtpcaadipejnllaaGreatDoor

/- The words of a memory and of an arena: what reading and storing one word does. -/
namespace Go.Proofs.YtpcaadipejnllaaGreatDoor
open Go.RowKit

/-- The word with an index. -/
def wd (ws : List Nat) (i : Nat) : Int := ((ws.getD i 0 : Nat) : Int)
theorem wd_nn (ws : List Nat) (i : Nat) : 0 ≤ wd ws i := by unfold wd; omega
theorem wd_set (ws : List Nat) (i j v : Nat) (hi : i < ws.length) : wd (ws.set i v) j = if i = j then (v : Int) else wd ws j := by
  unfold wd
  by_cases e : i = j
  · subst e; simp [List.getD, hi]
  · simp [List.getD, e]

/-- Block bm is a Mem, whose words, in block bw, are ws. -/
structure MemW (w : World) (bm bw : Nat) (ws : List Nat) : Prop where
  hd : ∃ cap cur, Blk w bm 120 #[.slice (some ⟨bw, 0, none⟩) ws.length cap] ∧ Blk w bw 60 cur ∧ ws.length ≤ cap ∧ cap ≤ maxLen ∧ cur.size = cap ∧
    ∀ i, i < ws.length → cur[i]? = some (.int .u64 (wd ws i))
  pos : 0 < ws.length
  small : ws.length ≤ 65536

section
variable {w w' : World} {bm bw : Nat} {ws : List Nat}
theorem MemW.ltm (h : MemW w bm bw ws) : bm < w.heap.size := by obtain ⟨_, _, h1, _⟩ := h.hd; exact h1.lt
theorem MemW.ltw (h : MemW w bm bw ws) : bw < w.heap.size := by obtain ⟨_, _, _, h2, _⟩ := h.hd; exact h2.lt
theorem MemW.ne (h : MemW w bm bw ws) : bm ≠ bw := by obtain ⟨_, _, h1, h2, _⟩ := h.hd; exact h1.ne_ h2 (by decide)
theorem MemW.chg {S : List Nat} (h : MemW w bm bw ws) (hc : Chg S w w') (hm : bm ∉ S) (hw : bw ∉ S) : MemW w' bm bw ws := by
  obtain ⟨cap, cur, h1, h2, h3⟩ := h.hd
  exact ⟨⟨cap, cur, h1.chg hc hm, h2.chg hc hw, h3⟩, h.pos, h.small⟩
theorem MemW.ext (h : MemW w bm bw ws) (hc : Chg [] w w') : MemW w' bm bw ws := h.chg hc (by simp) (by simp)
theorem MemW.head (h : MemW w bm bw ws) : ∃ cap, ws.length ≤ cap ∧ cap ≤ maxLen ∧ w.cell? ⟨bm, 0, none⟩ = some (.slice (some ⟨bw, 0, none⟩) ws.length cap) := by
  obtain ⟨cap, cur, h1, _, h3, h4, _⟩ := h.hd
  exact ⟨cap, h3, h4, by rw [h1.cell]; rfl⟩
theorem MemW.word (h : MemW w bm bw ws) {i : Nat} (hi : i < ws.length) : w.cell? ⟨bw, i, none⟩ = some (.int .u64 (wd ws i)) := by
  obtain ⟨cap, cur, _, h2, _, _, _, h6⟩ := h.hd
  rw [h2.cell]; exact h6 i hi
theorem MemW.free (h : MemW w bm bw ws) (i : Nat) : w.frozen? ⟨bw, i, none⟩ = false := by
  obtain ⟨cap, cur, _, h2, _⟩ := h.hd
  exact h2.frozen i
theorem MemW.set_ (h : MemW w bm bw ws) {i : Nat} {v : Nat} (hi : i < ws.length) : MemW (w.setCell ⟨bw, i, none⟩ (.int .u64 (v : Int))) bm bw (ws.set i v) := by
  obtain ⟨cap, cur, h1, h2, h3, h4, h5, h6⟩ := h.hd
  refine ⟨⟨cap, cur.setIfInBounds i (.int .u64 (v : Int)), ?_, h2.set_ i _, by simpa using h3, h4, by simpa using h5, ?_⟩, by simpa using h.pos, by simpa using h.small⟩
  · rw [List.length_set]; exact h1.far h.ne _
  · intro j hj
    rw [List.length_set] at hj
    rw [wd_set _ _ _ _ hi]
    by_cases e : i = j
    · subst e
      simp [show i < cur.size by omega]
    · rw [Array.getElem?_setIfInBounds_ne e, h6 j hj, if_neg e]
end

set_option maxHeartbeats 1000000 in
theorem mem_zero_no (bm bw n cap : Nat) (w : World) (hn : 0 < n) (h : w.cell? ⟨bm, 0, none⟩ = some (.slice (some ⟨bw, 0, none⟩) n cap)) :
    Calls Tryz.prog 100 #[.pointer (some ⟨bm, 0, none⟩)] w fun e w' => e = .returned (.bool false) ∧ w = w' := by
  have hn' : ((n : Int) == 0) = false := by simp; omega
  go_enter Tryz.func100, Tryz.ntmps100
  go_wp2
  go_ret
  exact ⟨rfl, rfl⟩

set_option maxRecDepth 100000 in
set_option maxHeartbeats 1000000 in
theorem mem_do_load (bm bw n cap : Nat) (i : Nat) (v : Int) (w : World) (hn : i < n) (hn2 : n ≤ 65536) (h : w.cell? ⟨bm, 0, none⟩ = some (.slice (some ⟨bw, 0, none⟩) n cap))
    (hb : bm < w.heap.size) (hb2 : bw < w.heap.size)
    (hv : w.cell? ⟨bw, i, none⟩ = some (.int .u64 v)) :
    Calls Tryz.prog 134 #[.pointer (some ⟨bm, 0, none⟩), .agg #[.int .i64 1, .int .i64 i, .int .u64 0, .int .u64 0]] w
      fun e w' => e = .returned (.tuple #[.agg #[.int .i64 1, .int .i64 i, .int .u64 v, .int .u64 v], .int .i64 0]) ∧ Chg [] w w' := by
  go_enter Tryz.func134, Tryz.ntmps134
  have hlt : decide ((i : Int) < 0) = false := by simp
  go_wp2_with (go_at_call 100; refine (mem_zero_no bm bw n cap _ (by omega) (by go_simp)).mono ?_; rintro e w' ⟨rfl, rfl⟩)
  go_quiet (fail)
  go_wp2
  go_quiet (fail)
  go_wp2
  refine wp_region_tail 14 (by kernel_rfl) (by kernel_rfl) ?_
  simp only [List.take_succ_cons, List.take_zero, List.drop_succ_cons, List.drop_zero]
  repeat still_step
  refine wpStill_nil ?_
  go_wp2
  refine bodyPost_ret (v := .tuple #[.agg #[.int .i64 1, .int .i64 i, .int .u64 v, .int .u64 v], .int .i64 0]) (by simp [results, Tryz.results134, go_sem]) rfl ⟨rfl, ?_⟩
  (with_reducible repeat (first | exact Chg.refl _ _ | assumption | refine Chg.alloc ?_ _ | refine Chg.drewN ?_ _ | refine Chg.drew ?_ | refine Chg.set ?_ _ (by simp <;> omega) _ | refine Chg.nil ?_ (by assumption)))

set_option maxRecDepth 100000 in
set_option maxHeartbeats 1000000 in
theorem mem_do_store (bm bw n cap : Nat) (i : Nat) (v v0 : Int) (w : World) (hn : i < n) (hn2 : n ≤ 65536) (h : w.cell? ⟨bm, 0, none⟩ = some (.slice (some ⟨bw, 0, none⟩) n cap))
    (hb : bm < w.heap.size) (hb2 : bw < w.heap.size) (hne : bm ≠ bw)
    (hv : w.cell? ⟨bw, i, none⟩ = some (.int .u64 v0)) (hf : w.frozen? ⟨bw, i, none⟩ = false) :
    Calls Tryz.prog 134 #[.pointer (some ⟨bm, 0, none⟩), .agg #[.int .i64 2, .int .i64 i, .int .u64 0, .int .u64 v]] w
      fun e w' => e = .returned (.tuple #[.agg #[.int .i64 2, .int .i64 i, .int .u64 v0, .int .u64 v], .int .i64 0]) ∧ Chg [bw] w w' ∧ ∀ t cs, Blk w bw t cs → Blk w' bw t (cs.setIfInBounds i (.int .u64 v)) := by
  go_enter Tryz.func134, Tryz.ntmps134
  have hlt : decide ((i : Int) < 0) = false := by simp
  go_wp2_with (go_at_call 100; refine (mem_zero_no bm bw n cap _ (by omega) (by go_simp)).mono ?_; rintro e w' ⟨rfl, rfl⟩)
  go_quiet (fail)
  go_wp2
  go_quiet (fail)
  go_wp2
  refine wp_region_tail 9 (by kernel_rfl) (by kernel_rfl) ?_
  simp only [List.take_succ_cons, List.take_zero, List.drop_succ_cons, List.drop_zero]
  repeat still_step
  refine wpStill_nil ?_
  go_wp2
  refine wp_world (fun W => w.heap.size + 1 < W.heap.size ∧ Blk W w.heap.size 223 #[.int .i64 2, .int .i64 i, .int .u64 0, .int .u64 v] ∧ Blk W (w.heap.size + 1) 223 #[.int .i64 0, .int .i64 0, .int .u64 0, .int .u64 0] ∧
    W.cell? ⟨bm, 0, none⟩ = some (.slice (some ⟨bw, 0, none⟩) n cap) ∧ W.cell? ⟨bw, i, none⟩ = some (.int .u64 v) ∧ Chg [bw] w W ∧ ∀ t cs, Blk w bw t cs → Blk W bw t (cs.setIfInBounds i (.int .u64 v))) ?_ ?_
  · refine ⟨by simp, ?_, ?_, by go_simp, World.cell?_setCell_same' _ _ _ (by go_simp), ?_, ?_⟩
    · exact (((Blk.new _ _ _).alloc _).drewN _).far (by simp; omega) _
    · exact ((Blk.newEq (by simp)).drewN _).far (by simp; omega) _
    · (with_reducible repeat (first | exact Chg.refl _ _ | assumption | refine Chg.alloc ?_ _ | refine Chg.drewN ?_ _ | refine Chg.drew ?_ | refine Chg.set ?_ _ (by simp <;> omega) _ | refine Chg.nil ?_ (by assumption)))
    · intro t cs hB
      exact (((hB.alloc _).alloc _).drewN _).set_ _ _
  clear h hv hf
  rintro W ⟨hW, B1, B2, h, hv, hC, hS⟩
  have b1 := B1.cell
  have b2 := B2.cell
  have f2 := B2.frozen
  refine wp_region_tail 14 (by kernel_rfl) (by kernel_rfl) ?_
  simp only [List.take_succ_cons, List.take_zero, List.drop_succ_cons, List.drop_zero]
  repeat still_step
  refine wpStill_nil ?_
  go_wp2
  refine bodyPost_ret (res_row_tmp rfl _ (((((B2.set_ _ _).set_ _ _).set_ _ _).set_ _ _).drew) rfl rfl Tryz.underlying223 rfl (by kernel_rfl)) rfl ⟨by simp, ?_, ?_⟩
  · (with_reducible repeat (first | exact Chg.refl _ _ | assumption | refine Chg.alloc ?_ _ | refine Chg.drewN ?_ _ | refine Chg.drew ?_ | refine Chg.set ?_ _ (by simp <;> omega) _ | refine Chg.nil ?_ (by assumption)))
  · intro t cs hB
    have := hS t cs hB
    exact (((((this.drew).far (by simp; omega) _).far (by simp; omega) _).far (by simp; omega) _).far (by simp; omega) _)

set_option maxRecDepth 100000 in
set_option maxHeartbeats 1000000 in
theorem mem_load (bm bw : Nat) (ws : List Nat) (i : Int) (w : World) (h : MemW w bm bw ws) (h0 : 0 ≤ i) (h1 : i < ws.length) :
    Calls Tryz.prog 106 #[.pointer (some ⟨bm, 0, none⟩), .int .i64 i] w
      fun e w' => e = .returned (.tuple #[.int .u64 (wd ws i.toNat), .int .i64 0]) ∧ Chg [] w w' := by
  obtain ⟨i, rfl⟩ := Int.eq_ofNat_of_zero_le h0
  rw [Int.toNat_natCast]
  have h1' : i < ws.length := by omega
  obtain ⟨cap, hc1, hc2, hc⟩ := h.head
  have hs := h.small
  go_enter Tryz.func106, Tryz.ntmps106
  go_wp2_with (go_at_call 134; refine (mem_do_load bm bw ws.length cap i _ _ h1' hs hc h.ltm h.ltw (h.word h1')).mono ?_; rintro e w1 ⟨rfl, hC⟩)
  go_ret2
  exact ⟨rfl, by (with_reducible repeat (first | exact Chg.refl _ _ | assumption | refine Chg.alloc ?_ _ | refine Chg.drewN ?_ _ | refine Chg.drew ?_ | refine Chg.set ?_ _ (by simp <;> omega) _ | refine Chg.nil ?_ (by assumption)))⟩

set_option maxRecDepth 100000 in
set_option maxHeartbeats 1000000 in
theorem mem_store (bm bw : Nat) (ws : List Nat) (i v : Int) (w : World) (h : MemW w bm bw ws) (h0 : 0 ≤ i) (h1 : i < ws.length) (hv : 0 ≤ v) :
    Calls Tryz.prog 102 #[.pointer (some ⟨bm, 0, none⟩), .int .i64 i, .int .u64 v] w
      fun e w' => e = .returned (.int .i64 0) ∧ Chg [bw] w w' ∧ MemW w' bm bw (ws.set i.toNat v.toNat) := by
  obtain ⟨i, rfl⟩ := Int.eq_ofNat_of_zero_le h0
  obtain ⟨v, rfl⟩ := Int.eq_ofNat_of_zero_le hv
  rw [Int.toNat_natCast, Int.toNat_natCast]
  have h1' : i < ws.length := by omega
  obtain ⟨cap, hc1, hc2, hc⟩ := h.head
  have hs := h.small
  go_enter Tryz.func102, Tryz.ntmps102
  go_wp2_with (go_at_call 134; refine (mem_do_store bm bw ws.length cap i _ _ _ h1' hs hc h.ltm h.ltw h.ne (h.word h1') (h.free i)).mono ?_; rintro e w1 ⟨rfl, hC, hS⟩)
  go_ret
  obtain ⟨cap', cur, g1, g2, g3, g4, g5, g6⟩ := h.hd
  refine ⟨rfl, by (with_reducible repeat (first | exact Chg.refl _ _ | assumption | refine Chg.alloc ?_ _ | refine Chg.drewN ?_ _ | refine Chg.drew ?_ | refine Chg.set ?_ _ (by simp <;> omega) _ | refine Chg.nil ?_ (by assumption))), ⟨cap', cur.setIfInBounds i (.int .u64 (v : Int)), ?_, ?_, by simpa using g3, g4, by simpa using g5, ?_⟩, by simpa using h.pos, by simpa using h.small⟩
  · rw [List.length_set]
    have q1 := g1.chg hC (by simpa using h.ne)
    have := q1.lt
    have := hC.size
    (with_reducible repeat (first | assumption | exact Blk.new _ _ _ | refine Blk.drewN ?_ _ | refine Blk.drew ?_ | refine Blk.alloc ?_ _ | refine Blk.far ?_ (by simp <;> omega) _))
  · have q2 := hS _ _ g2
    have := q2.lt
    (with_reducible repeat (first | assumption | exact Blk.new _ _ _ | refine Blk.drewN ?_ _ | refine Blk.drew ?_ | refine Blk.alloc ?_ _ | refine Blk.far ?_ (by simp <;> omega) _))
  · intro j hj
    rw [List.length_set] at hj
    rw [wd_set _ _ _ _ h1']
    by_cases e : i = j
    · subst e
      simp [show i < cur.size by omega]
    · rw [Array.getElem?_setIfInBounds_ne e, g6 j hj, if_neg e]

end Go.Proofs.YtpcaadipejnllaaGreatDoor

/- The words of an arena: one word read and stored, where a page's words are, its kind, the root. -/
set_option linter.unusedVariables false
set_option linter.unusedSimpArgs false
namespace Go.Proofs.YtpcaadipejnllaaGreatDoor
open Go.RowKit

/-- The place of a word of a page. -/
def pl (page i : Int) : Int := 16 + 128 * (page - 1) + i

/-- Block ba is an arena whose memory's words are ws. -/
structure ArW (w : World) (ba bm bw : Nat) (ws : List Nat) : Prop where
  a : Blk w ba 126 #[.pointer (some ⟨bm, 0, none⟩)]
  m : MemW w bm bw ws
section
variable {w w' : World} {ba bm bw : Nat} {ws : List Nat}
theorem ArW.lt (h : ArW w ba bm bw ws) : ba < w.heap.size := h.a.lt
theorem ArW.ne1 (h : ArW w ba bm bw ws) : ba ≠ bm := by obtain ⟨_, _, h1, h2, _⟩ := h.m.hd; exact h.a.ne_ h1 (by decide)
theorem ArW.ne2 (h : ArW w ba bm bw ws) : ba ≠ bw := by obtain ⟨_, _, h1, h2, _⟩ := h.m.hd; exact h.a.ne_ h2 (by decide)
theorem ArW.chg {S : List Nat} (h : ArW w ba bm bw ws) (hc : Chg S w w') (ha : ba ∉ S) (hm : bm ∉ S) (hw : bw ∉ S) : ArW w' ba bm bw ws := ⟨h.a.chg hc ha, h.m.chg hc hm hw⟩
theorem ArW.ext (h : ArW w ba bm bw ws) (hc : Chg [] w w') : ArW w' ba bm bw ws := h.chg hc (by simp) (by simp) (by simp)
theorem ArW.cell (h : ArW w ba bm bw ws) : w.cell? ⟨ba, 0, none⟩ = some (.pointer (some ⟨bm, 0, none⟩)) := by rw [h.a.cell]; rfl
theorem ArW.into (h : ArW w ba bm bw ws) {ws' : List Nat} (hc : Chg [bw] w w') (hm : MemW w' bm bw ws') : ArW w' ba bm bw ws' := ⟨h.a.chg hc (by simpa using h.ne2), hm⟩
end

set_option maxRecDepth 100000 in
set_option maxHeartbeats 1000000 in
theorem get_w (bm bw : Nat) (ws : List Nat) (i : Int) (w : World) (h : MemW w bm bw ws) (h0 : 0 ≤ i) (h1 : i < ws.length) :
    Calls Tryz.prog 65 #[.agg #[.pointer (some ⟨bm, 0, none⟩)], .int .i64 i] w
      fun e w' => e = .returned (.int .u64 (wd ws i.toNat)) ∧ Chg [] w w' := by
  go_enter Tryz.func65, Tryz.ntmps65
  go_wp2_with (go_at_call 106; refine (mem_load bm bw ws i _ (h.ext ?c1) h0 h1).mono ?_; rotate_left; rintro e w1 ⟨rfl, hC⟩)
  case c1 => (with_reducible repeat (first | exact Chg.refl _ _ | assumption | refine Chg.alloc ?_ _ | refine Chg.drewN ?_ _ | refine Chg.drew ?_ | refine Chg.set ?_ _ (by simp <;> omega) _ | refine Chg.nil ?_ (by assumption)))
  go_ret
  exact ⟨rfl, by (with_reducible repeat (first | exact Chg.refl _ _ | assumption | refine Chg.alloc ?_ _ | refine Chg.drewN ?_ _ | refine Chg.drew ?_ | refine Chg.set ?_ _ (by simp <;> omega) _ | refine Chg.nil ?_ (by assumption)))⟩

set_option maxRecDepth 100000 in
set_option maxHeartbeats 1000000 in
theorem set_w (bm bw : Nat) (ws : List Nat) (i v : Int) (w : World) (h : MemW w bm bw ws) (h0 : 0 ≤ i) (h1 : i < ws.length) (hv : 0 ≤ v) :
    Calls Tryz.prog 60 #[.agg #[.pointer (some ⟨bm, 0, none⟩)], .int .i64 i, .int .u64 v] w
      fun e w' => e = .returned (.tuple #[]) ∧ Chg [bw] w w' ∧ MemW w' bm bw (ws.set i.toNat v.toNat) := by
  go_enter Tryz.func60, Tryz.ntmps60
  go_wp2_with (go_at_call 102; refine (mem_store bm bw ws i v _ (h.ext ?c1) h0 h1 hv).mono ?_; rotate_left; rintro e w1 ⟨rfl, hC, hM⟩)
  case c1 => (with_reducible repeat (first | exact Chg.refl _ _ | assumption | refine Chg.alloc ?_ _ | refine Chg.drewN ?_ _ | refine Chg.drew ?_ | refine Chg.set ?_ _ (by simp <;> omega) _ | refine Chg.nil ?_ (by assumption)))
  go_end0
  refine ⟨rfl, ?_, hM⟩
  exact ((Chg.refl _ _).alloc _).on hC (by simp)

set_option maxRecDepth 100000 in
set_option maxHeartbeats 1000000 in
theorem place_w (page i : Int) (w : World) (h0 : 0 ≤ page) (h1 : page ≤ 512) (h2 : 0 ≤ i) (h3 : i < 128) :
    Calls Tryz.prog 58 #[.int .i64 page, .int .i64 i] w fun e w' => e = .returned (.int .i64 (pl page i)) ∧ w' = w := by
  go_enter Tryz.func58, Tryz.ntmps58
  go_wp2
  go_ret
  exact ⟨rfl, rfl⟩

theorem place_v (page i : Int) (w : World) (h0 : 0 ≤ page) (h1 : page ≤ 512) (h2 : 0 ≤ i) (h3 : i < 128) :
    Calls Tryz.prog 58 #[.int .i64 page, .int .i64 i] w fun e w' => e = .returned (.int .i64 (pl page i)) ∧ w = w' :=
  (place_w page i w h0 h1 h2 h3).mono fun _ _ h => ⟨h.1, h.2.symm⟩

set_option maxRecDepth 100000 in
set_option maxHeartbeats 1000000 in
theorem none_w (ba bm bw : Nat) (ws : List Nat) (w : World) (h : ArW w ba bm bw ws) :
    Calls Tryz.prog 63 #[.pointer (some ⟨ba, 0, none⟩)] w fun e w' => e = .returned (.bool false) ∧ w = w' := by
  have hc := h.cell
  go_enter Tryz.func63, Tryz.ntmps63
  go_wp2
  go_ret
  exact ⟨rfl, rfl⟩

set_option maxRecDepth 100000 in
set_option maxHeartbeats 1000000 in
theorem pages_w (ba bm bw : Nat) (ws : List Nat) (w : World) (h : ArW w ba bm bw ws) (h9 : wd ws 0 = 40) :
    Calls Tryz.prog 133 #[.pointer (some ⟨ba, 0, none⟩)] w fun e w' => e = .returned (.int .i64 40) ∧ Chg [] w w' := by
  have hc := h.cell
  have hp := h.m.pos
  go_enter Tryz.func133, Tryz.ntmps133
  go_wp2_with (go_at_call 65; refine (get_w bm bw ws 0 _ h.m (by omega) (by omega)).mono ?_; rintro e w1 ⟨rfl, hC⟩)
  go_ret
  exact ⟨by simp [h9], hC⟩

set_option maxRecDepth 100000 in
set_option maxHeartbeats 1000000 in
theorem kind_w (ba bm bw : Nat) (ws : List Nat) (page : Int) (w : World) (h : ArW w ba bm bw ws) (h0 : 1 ≤ page) (h1 : page ≤ 511) (h2 : pl page 8 < ws.length) :
    Calls Tryz.prog 141 #[.pointer (some ⟨ba, 0, none⟩), .int .i64 page] w fun e w' => e = .returned (.int .u64 (wd ws (pl page 8).toNat)) ∧ Chg [] w w' := by
  have hc := h.cell
  go_enter Tryz.func141, Tryz.ntmps141
  go_wp2
  refine wp_region_tail 6 (by kernel_rfl) (by kernel_rfl) ?_
  simp only [List.take_succ_cons, List.take_zero, List.drop_succ_cons, List.drop_zero]
  repeat (first | still_step | still_call (place_w page 8 _ (by omega) (by omega) (by omega) (by omega)))
  refine wpStill_nil ?_
  go_wp2_with (go_at_call 65; refine (get_w bm bw ws _ _ (h.m.ext ?c1) (by unfold pl; omega) h2).mono ?_; rotate_left; rintro e w1 ⟨rfl, hC⟩)
  case c1 => (with_reducible repeat (first | exact Chg.refl _ _ | assumption | refine Chg.alloc ?_ _ | refine Chg.drewN ?_ _ | refine Chg.drew ?_ | refine Chg.set ?_ _ (by simp <;> omega) _ | refine Chg.nil ?_ (by assumption)))
  go_ret
  exact ⟨rfl, by (with_reducible repeat (first | exact Chg.refl _ _ | assumption | refine Chg.alloc ?_ _ | refine Chg.drewN ?_ _ | refine Chg.drew ?_ | refine Chg.set ?_ _ (by simp <;> omega) _ | refine Chg.nil ?_ (by assumption)))⟩

end Go.Proofs.YtpcaadipejnllaaGreatDoor

/- A page's words put into an arena, and read out of it. -/
set_option linter.unusedVariables false
set_option linter.unusedSimpArgs false
namespace Go.Proofs.YtpcaadipejnllaaGreatDoor
open Go.RowKit

/-- The cells of numbers. -/
def nums (l : List Nat) : Array Value := (l.map fun n => Value.int .u64 ((n : Nat) : Int)).toArray
theorem nums_size (l : List Nat) : (nums l).size = l.length := by simp [nums]
theorem nums_get {l : List Nat} {i : Nat} (h : i < l.length) : (nums l)[i]? = some (.int .u64 (wd l i)) := by
  simp [nums, wd, List.getElem?_eq_getElem h, List.getD]
theorem Blk.num {w : World} {g : Nat} {t : TypeId} {l : List Nat} (h : Blk w g t (nums l)) : ∀ i, i < l.length → w.cell? ⟨g, i, none⟩ = some (.int .u64 (wd l i)) := fun i hi => by
  rw [h.cell]; exact nums_get hi

/-- Of ws the words of a page from the eighth on, up to one, have become those of pg. -/
def PutTo (ws ws' : List Nat) (page : Int) (pg : List Nat) (k : Int) : Prop :=
  ws'.length = ws.length ∧ ∀ j : Nat, wd ws' j = if pl page 8 ≤ (j : Int) ∧ (j : Int) < pl page k then wd pg ((j : Int) - pl page 0).toNat else wd ws j
theorem PutTo.start (ws : List Nat) (page : Int) (pg : List Nat) : PutTo ws ws page pg 8 := ⟨rfl, fun j => by rw [if_neg (by unfold pl; omega)]⟩
theorem PutTo.step {ws ws' : List Nat} {page : Int} {pg : List Nat} {k : Nat} (h : PutTo ws ws' page pg k) (h8 : 8 ≤ k) (hp : 1 ≤ page) (hl : pl page k < ws.length) :
    PutTo ws (ws'.set (pl page k).toNat (wd pg k).toNat) page pg ((k + 1 : Nat) : Int) := by
  have hw := wd_nn pg k
  refine ⟨by simpa using h.1, fun j => ?_⟩
  rw [wd_set _ _ _ _ (by rw [h.1]; unfold pl at *; omega), h.2]
  unfold pl at *
  by_cases e : (16 + 128 * (page - 1) + (k : Int)).toNat = j
  · rw [if_pos e, if_pos (by omega), show (((j : Nat) : Int) - (16 + 128 * (page - 1) + 0)).toNat = k by omega]; omega
  · rw [if_neg e]
    by_cases c : 16 + 128 * (page - 1) + 8 ≤ (j : Int) ∧ (j : Int) < 16 + 128 * (page - 1) + (k : Int)
    · rw [if_pos c, if_pos (by omega)]
    · rw [if_neg c, if_neg (by omega)]

set_option maxRecDepth 100000 in
set_option maxHeartbeats 1000000 in
theorem put_w (ba bm bw : Nat) (ws pg : List Nat) (page : Int) (w : World) (h : ArW w ba bm bw ws) (hpg : pg.length = 128) (h0 : 1 ≤ page) (h1 : page ≤ 511) (h2 : pl page 128 ≤ ws.length) :
    Calls Tryz.prog 66 #[.pointer (some ⟨ba, 0, none⟩), .int .i64 page, .agg (nums pg)] w
      fun e w' => e = .returned (.tuple #[]) ∧ Chg [bw] w w' ∧ ∃ ws', ArW w' ba bm bw ws' ∧ PutTo ws ws' page pg 128 := by
  have hsz := nums_size pg
  rw [hpg] at hsz
  go_enter Tryz.func66, Tryz.ntmps66
  go_wp2
  go_loopw [6] (fun i wr => ∃ k : Nat, 8 ≤ k ∧ k ≤ 128 ∧ i = .int .i64 k ∧ Chg [bw] w wr ∧ Blk wr w.heap.size 72 (nums pg) ∧ ∃ ws', ArW wr ba bm bw ws' ∧ PutTo ws ws' page pg k) (fun i _ => 128 - (intOf i).toNat)
  case atStart => exact ⟨8, by omega, by omega, rfl, by (with_reducible repeat (first | exact Chg.refl _ _ | assumption | refine Chg.alloc ?_ _ | refine Chg.drewN ?_ _ | refine Chg.drew ?_ | refine Chg.set ?_ _ (by simp <;> omega) _ | refine Chg.nil ?_ (by assumption))), Blk.new _ _ _, ws, h.ext (by (with_reducible repeat (first | exact Chg.refl _ _ | assumption | refine Chg.alloc ?_ _ | refine Chg.drewN ?_ _ | refine Chg.drew ?_ | refine Chg.set ?_ _ (by simp <;> omega) _ | refine Chg.nil ?_ (by assumption)))), PutTo.start _ _ _⟩
  case round =>
    obtain ⟨k, hk8, hk, rfl, hC, hB, ws', hA, hP⟩ := hrel
    by_cases hlt : k < 128
    · have hc := hA.cell
      have hv := hB.num k (by omega)
      have hle := hP.1
      have hr : pl page k < ws'.length := by unfold pl at *; omega
      go_wp2
      refine wp_region_tail 10 (by kernel_rfl) (by kernel_rfl) ?_
      simp only [List.take_succ_cons, List.take_zero, List.drop_succ_cons, List.drop_zero]
      repeat (first | still_step | still_call (place_w page k _ (by omega) (by omega) (by omega) (by omega)))
      refine wpStill_nil ?_
      go_wp2_with (go_at_call 60; refine (set_w bm bw ws' _ _ _ (hA.m.ext ?c1) (by unfold pl; omega) hr (wd_nn _ _)).mono ?_; rotate_left; rintro e w1 ⟨rfl, hC1, hM1⟩)
      case c1 => (with_reducible repeat (first | exact Chg.refl _ _ | assumption | refine Chg.alloc ?_ _ | refine Chg.drewN ?_ _ | refine Chg.drew ?_ | refine Chg.set ?_ _ (by simp <;> omega) _ | refine Chg.nil ?_ (by assumption)))
      have hBne : w.heap.size ≠ bw := by have := h.m.ltw; omega
      go_roundw
      case rel =>
        refine ⟨k + 1, by omega, by omega, by go_num, ?_, ?_, _, ?_, hP.step hk8 h0 (by omega)⟩
        · exact hC.drew.on hC1 (by simp)
        · exact hB.drew.chg hC1 (by simpa using hBne)
        · exact (hA.ext (by (with_reducible repeat (first | exact Chg.refl _ _ | assumption | refine Chg.alloc ?_ _ | refine Chg.drewN ?_ _ | refine Chg.drew ?_ | refine Chg.set ?_ _ (by simp <;> omega) _ | refine Chg.nil ?_ (by assumption))))).into hC1 hM1
      case measure => simp [intOf]; omega
    · go_wp2
      go_end0
      obtain rfl : k = 128 := by omega
      exact ⟨rfl, hC, ws', hA, hP⟩

end Go.Proofs.YtpcaadipejnllaaGreatDoor

/- Reading a page's words out of an arena. -/
set_option linter.unusedVariables false
set_option linter.unusedSimpArgs false
namespace Go.Proofs.YtpcaadipejnllaaGreatDoor
open Go.RowKit

set_option maxRecDepth 100000 in
set_option maxHeartbeats 1000000 in
theorem there_w (ba bm bw : Nat) (ws : List Nat) (page : Int) (w : World) (h : ArW w ba bm bw ws) (h9 : wd ws 0 = 40) (h0 : 1 ≤ page) (h1 : page ≤ 40) :
    Calls Tryz.prog 107 #[.pointer (some ⟨ba, 0, none⟩), .int .i64 page] w
      fun e w' => e = .returned (.int .i64 0) ∧ Chg [] w w' := by
  go_enter Tryz.func107, Tryz.ntmps107
  go_wp2_with (first | (go_at_call 63; refine (none_w ba bm bw ws _ h).mono ?_; rintro e w1 ⟨rfl, rfl⟩) | (go_at_call 133; refine (pages_w ba bm bw ws _ h h9).mono ?_; rintro e w1 ⟨rfl, hC⟩))
  go_ret
  exact ⟨rfl, hC⟩

set_option maxRecDepth 100000 in
set_option maxHeartbeats 1000000 in
theorem read_w (ba bm bw : Nat) (ws : List Nat) (page : Int) (w : World) (h : ArW w ba bm bw ws) (h9 : wd ws 0 = 40) (h0 : 1 ≤ page) (h1 : page ≤ 40) (h2 : ws.length = 5136) :
    Calls Tryz.prog 129 #[.pointer (some ⟨ba, 0, none⟩), .int .i64 page] w
      fun e w' => ∃ cs, cs.size = 128 ∧ (∀ i : Nat, i < 128 → cs[i]? = some (.int .u64 (wd ws (pl page i).toNat))) ∧ e = .returned (.tuple #[.agg cs, .int .i64 0]) ∧ Chg [] w w' := by
  go_enter Tryz.func129, Tryz.ntmps129
  go_wp2_with (first | (go_at_call 107; refine (there_w ba bm bw ws page _ (h.ext ?c1) h9 h0 h1).mono ?_; rotate_left; rintro e w1 ⟨rfl, hC⟩))
  case c1 => (with_reducible repeat (first | exact Chg.refl _ _ | assumption | refine Chg.alloc ?_ _ | refine Chg.drewN ?_ _ | refine Chg.drew ?_ | refine Chg.set ?_ _ (by simp <;> omega) _ | refine Chg.nil ?_ (by assumption)))
  obtain ⟨Z, hZ, hZs⟩ : ∃ Z, Blk w1 w.heap.size 72 Z ∧ Z.size = 128 := ⟨_, ((Blk.new w 72 _).alloc _).ext hC, by simp⟩
  obtain ⟨Y, hY, hYs⟩ : ∃ Y, Blk w1 (w.heap.size + 1) 72 Y ∧ Y.size = 128 := ⟨_, (Blk.newEq (by simp)).ext hC, by simp⟩
  have hC1 : Chg [] w w1 := by (with_reducible repeat (first | exact Chg.refl _ _ | assumption | refine Chg.alloc ?_ _ | refine Chg.drewN ?_ _ | refine Chg.drew ?_ | refine Chg.set ?_ _ (by simp <;> omega) _ | refine Chg.nil ?_ (by assumption)))
  clear hC
  go_loopw [8, 16] (fun v i wr => ∃ k : Nat, k ≤ 128 ∧ i = .int .i64 k ∧ Chg [] w wr ∧ Blk wr w.heap.size 72 Z ∧ ∃ cs, Blk wr (w.heap.size + 1) 72 cs ∧ cs.size = 128 ∧ ∀ i : Nat, i < k → cs[i]? = some (.int .u64 (wd ws (pl page i).toNat))) (fun _ i _ => 128 - (intOf i).toNat)
  case atStart => exact ⟨0, by omega, rfl, hC1, hZ, Y, hY, hYs, by omega⟩
  case round =>
    obtain ⟨k, hk, rfl, hC2, hZ2, cs, hcs, hcz, hcv⟩ := hrel
    have hA := h.ext hC2
    have hc := hA.cell
    by_cases hlt : k < 128
    · have hfit : (pl page k).toNat < ws.length := by unfold pl; omega
      have hfit2 : pl page k < ws.length := by unfold pl; omega
      go_wp2
      go_region_with (first | (go_at_call 58; refine (place_w page k _ (by omega) (by omega) (by omega) (by omega)).mono ?_; rintro e w1 ⟨rfl, rfl⟩) | (go_at_call 65; refine (get_w bm bw ws _ _ (hA.m.ext (by (with_reducible repeat (first | exact Chg.refl _ _ | assumption | refine Chg.alloc ?_ _ | refine Chg.drewN ?_ _ | refine Chg.drew ?_ | refine Chg.set ?_ _ (by simp <;> omega) _ | refine Chg.nil ?_ (by assumption))))) (by unfold pl; omega) hfit2).mono ?_; rintro e w2 ⟨rfl, hC3⟩; have hB3 := hcs.drew.ext hC3; have hb3 := hB3.cell; have hf3 := hB3.frozen; have hq3 : (cs[k]?).isSome = true := by simp [hcz, hlt]))
      all_goals
        have hB3 := hcs.drew.ext hC3
        go_wp2
        go_roundw
        case rel =>
          refine ⟨k + 1, by omega, by go_num, ?_, ?_, _, hB3.set_ _ _, by simpa using hcz, ?_⟩
          · exact (hC2.drew.nil hC3).set _ (by simp) _
          · exact (hZ2.drew.ext hC3).far (by simp) _
          · intro i hi
            by_cases e : k = i
            · subst e; simp [hcz, hlt]
            · rw [Array.getElem?_setIfInBounds_ne e]; exact hcv i (by omega)
        case measure => simp [intOf]; omega
    · obtain rfl : k = 128 := by omega
      have hone : cs.all (·.oneCell') = true := all_one_of fun i hi => ⟨_, hcv i (by omega), rfl⟩
      go_wp2_with (first
        | (refine wpList_load_row rfl 72 (.tmp 6) rfl (w.heap.size + 1) rfl 72 cs (0, 0) _ hcs Tryz.underlying72 rfl (hcz ▸ (by kernel_rfl)) ?_)
        | (refine wpList_store_blk rfl 72 (.tmp 4) (.tmp 30) rfl w.heap.size rfl cs rfl 72 Z hZ2 (hcz ▸ (by kernel_rfl)) (by omega) hone ?_; intro w2 hC3 hs3 hB3))
      exact bodyPost_ret (res_row_tmp rfl _ hB3 rfl rfl Tryz.underlying72 rfl (hcz ▸ (by kernel_rfl))) rfl ⟨cs, hcz, hcv, rfl, hC2.on hC3 (by simp)⟩

end Go.Proofs.YtpcaadipejnllaaGreatDoor

/- Slices that read as lists of cells. -/
set_option linter.unusedVariables false
set_option linter.unusedSimpArgs false
namespace Go.Proofs.YtpcaadipejnllaaGreatDoor
open Go.RowKit

/-- The slice v has n elements of so many cells each, which are xs. -/
structure Sl (w : World) (size : Nat) (v : Value) (n : Nat) (xs : List Value) : Prop where
  len : xs.length = n * size
  val : ∃ A c, v = .slice A n c ∧ n ≤ c ∧ c ≤ maxLen ∧ (n = 0 ∨ ∃ b o, A = some ⟨b, o, none⟩ ∧ b < w.heap.size ∧ ∀ j, j < n * size → w.cell? ⟨b, o + j, none⟩ = xs[j]?)

section
variable {w w' : World} {size n : Nat} {v : Value} {xs : List Value}
theorem Sl.nil (w : World) (size : Nat) : Sl w size (.slice none 0 0) 0 [] := ⟨by simp, none, 0, rfl, Nat.le_refl _, Nat.zero_le _, .inl rfl⟩
theorem Sl.chg {S : List Nat} (h : Sl w size v n xs) (hc : Chg S w w') (hn : ∀ k, v.ownBlock = some k → k ∉ S) : Sl w' size v n xs := by
  obtain ⟨hl, A, c, rfl, h1, h2, h3⟩ := h
  refine ⟨hl, A, c, rfl, h1, h2, ?_⟩
  rcases h3 with h3 | ⟨b, o, rfl, hb, hx⟩
  · exact .inl h3
  · exact .inr ⟨b, o, rfl, Nat.lt_of_lt_of_le hb hc.size, fun j hj => by rw [hc.cell hb (hn b rfl)]; exact hx j hj⟩
theorem Sl.ext (h : Sl w size v n xs) (hc : Chg [] w w') : Sl w' size v n xs := h.chg hc (by simp)
theorem Sl.own {base : Nat} {e : TypeId} (h : w.ownsRow base e size v n xs) : Sl w size v n xs := by
  obtain ⟨hl, h2⟩ := h
  refine ⟨hl, ?_⟩
  rcases h2 with ⟨rfl, rfl⟩ | ⟨g, cap, cur, rfl, hb, hh, hn, hm, hs, ht⟩
  · exact ⟨none, 0, rfl, Nat.le_refl _, Nat.zero_le _, .inl rfl⟩
  · refine ⟨some ⟨g, 0, none⟩, cap, rfl, hn, hm, .inr ⟨g, 0, rfl, (Array.getElem?_eq_some_iff.1 hh).1, fun j hj => ?_⟩⟩
    rw [cell_of_row w g _ cur e (0, 0) hh, ← ht, List.getElem?_take, if_pos hj]
    simp
/-- In a round: where the elements lie. -/
theorem Sl.at_ {A : Option Addr} {c : Nat} (h : Sl w size (.slice A n c) n xs) (hn : 0 < n) : ∃ b o, A = some ⟨b, o, none⟩ ∧ b < w.heap.size ∧ ∀ j, j < n * size → w.cell? ⟨b, o + j, none⟩ = xs[j]? := by
  obtain ⟨_, A', c', e, _, _, h3⟩ := h
  injection e with e1 _ e2
  subst e1
  rcases h3 with h3 | h3
  · omega
  · exact h3
theorem Sl.form (h : Sl w size v n xs) : ∃ A c, v = .slice A n c ∧ n ≤ c ∧ c ≤ maxLen := by
  obtain ⟨_, A', c', e, h1, h2, h3⟩ := h
  exact ⟨A', c', e, h1, h2⟩
end

theorem own_chg {S : List Nat} {w w' : World} {base : Nat} {e : TypeId} {size : Nat} {v : Value} {n : Nat} {xs : List Value} (h : w.ownsRow base e size v n xs) (hC : Chg S w w') (hn : ∀ k, v.ownBlock = some k → k ∉ S) : w'.ownsRow base e size v n xs := by
  refine ⟨h.1, ?_⟩
  rcases h.2 with h2 | ⟨g, cap, cur, rfl, hb, hg, rest⟩
  · exact .inl h2
  · exact .inr ⟨g, cap, cur, rfl, hb, (hC.block g (Array.getElem?_eq_some_iff.1 hg).1 (hn g rfl)).trans hg, rest⟩
theorem own_ext {w w' : World} {base : Nat} {e : TypeId} {size : Nat} {v : Value} {n : Nat} {xs : List Value} (h : w.ownsRow base e size v n xs) (hC : Chg [] w w') : w'.ownsRow base e size v n xs := own_chg h hC (by simp)
/-- What an append leaves changed: nothing that was there before the call. -/
theorem Chg.app {S : List Nat} {a w w' : World} {base : Nat} {e : TypeId} {size : Nat} {v : Value} {n : Nat} {xs : List Value} (h : Chg S a w) (ho : w.ownsRow base e size v n xs) (hb : a.heap.size ≤ base) (hg : w.grownBy w' v.ownBlock) : Chg S a w' :=
  h.grown hg (fun k hk => .inr (Nat.le_trans hb (ho.lt k hk).1))
theorem one_at (w : World) (t : TypeId) (u : Value) : ∀ (j : Nat) (x : Value), [u][j]? = some x → (w.alloc (.cells #[u] t)).cell? ((⟨w.heap.size, 0, none⟩ : Addr).add j) = some x := by
  intro j x hj
  match j, hj with
  | 0, hj =>
    simp at hj
    subst hj
    show (w.alloc (.cells #[u] t)).cell? ⟨w.heap.size, 0, none⟩ = some u
    rw [(Blk.new w t #[u]).cell]; rfl

/-- Numbers as ints. -/
def ints (l : List Int) : List Value := l.map (Value.int .i64)
theorem ints_len (l : List Int) : (ints l).length = l.length := by simp [ints]
theorem ints_append (l m : List Int) : ints (l ++ m) = ints l ++ ints m := by simp [ints]
theorem ints_get (l : List Int) (k : Nat) (h : k < l.length) : (ints l)[k]? = some (.int .i64 (l.getD k 0)) := by
  simp [ints, List.getD, List.getElem?_eq_getElem h]

end Go.Proofs.YtpcaadipejnllaaGreatDoor

/- The state of an arena of forty pages: the first free page, the root, the pages; what reads it. -/
set_option linter.unusedVariables false
set_option linter.unusedSimpArgs false
namespace Go.Proofs.YtpcaadipejnllaaGreatDoor
open Go.RowKit

/-- The words are those of an arena of forty pages with a first free page, a root, and pages whose first eight words are zero. -/
structure IsAr (ws : List Nat) (fr rt : Nat) (pgs : Nat → List Nat) : Prop where
  len : ws.length = 5136
  w0 : wd ws 0 = 40
  w1 : wd ws 1 = fr
  w3 : wd ws 3 = rt
  pg : ∀ p : Nat, 1 ≤ p → p ≤ 40 → (pgs p).length = 128 ∧ (∀ i, i < 8 → wd (pgs p) i = 0) ∧ ∀ i : Nat, i < 128 → wd ws (pl p i).toNat = wd (pgs p) i
theorem pl_lt {ws : List Nat} {fr rt : Nat} {pgs : Nat → List Nat} (h : IsAr ws fr rt pgs) {p i : Int} (h1 : p ≤ 40) (h2 : i < 128) : pl p i < ws.length := by
  have := h.len; unfold pl; omega

/-- Block ba is such an arena. -/
def ArS (w : World) (ba bm bw fr rt : Nat) (pgs : Nat → List Nat) : Prop := ∃ ws, ArW w ba bm bw ws ∧ IsAr ws fr rt pgs
section
variable {w w' : World} {ba bm bw fr rt : Nat} {pgs : Nat → List Nat}
theorem ArS.chg {S : List Nat} (h : ArS w ba bm bw fr rt pgs) (hc : Chg S w w') (ha : ba ∉ S) (hm : bm ∉ S) (hw : bw ∉ S) : ArS w' ba bm bw fr rt pgs := by
  obtain ⟨ws, h1, h2⟩ := h
  exact ⟨ws, h1.chg hc ha hm hw, h2⟩
theorem ArS.ext (h : ArS w ba bm bw fr rt pgs) (hc : Chg [] w w') : ArS w' ba bm bw fr rt pgs := h.chg hc (by simp) (by simp) (by simp)
theorem ArS.lt (h : ArS w ba bm bw fr rt pgs) : ba < w.heap.size ∧ bm < w.heap.size ∧ bw < w.heap.size := by
  obtain ⟨ws, h1, h2⟩ := h
  exact ⟨h1.lt, h1.m.ltm, h1.m.ltw⟩
theorem ArS.ne (h : ArS w ba bm bw fr rt pgs) : ba ≠ bm ∧ ba ≠ bw ∧ bm ≠ bw := by
  obtain ⟨ws, h1, h2⟩ := h
  exact ⟨h1.ne1, h1.ne2, h1.m.ne⟩
theorem ArS.cell (h : ArS w ba bm bw fr rt pgs) : w.cell? ⟨ba, 0, none⟩ = some (.pointer (some ⟨bm, 0, none⟩)) := by
  obtain ⟨ws, h1, h2⟩ := h
  exact h1.cell
end

set_option maxRecDepth 100000 in
set_option maxHeartbeats 1000000 in
theorem none_s (ba bm bw fr rt : Nat) (pgs : Nat → List Nat) (w : World) (h : ArS w ba bm bw fr rt pgs) :
    Calls Tryz.prog 63 #[.pointer (some ⟨ba, 0, none⟩)] w fun e w' => e = .returned (.bool false) ∧ w = w' := by
  obtain ⟨ws, h1, h2⟩ := h
  exact none_w ba bm bw ws w h1
set_option maxRecDepth 100000 in
set_option maxHeartbeats 1000000 in
theorem pages_s (ba bm bw fr rt : Nat) (pgs : Nat → List Nat) (w : World) (h : ArS w ba bm bw fr rt pgs) :
    Calls Tryz.prog 133 #[.pointer (some ⟨ba, 0, none⟩)] w fun e w' => e = .returned (.int .i64 40) ∧ Chg [] w w' := by
  obtain ⟨ws, h1, h2⟩ := h
  exact pages_w ba bm bw ws w h1 h2.w0
set_option maxRecDepth 100000 in
set_option maxHeartbeats 1000000 in
theorem there_s (ba bm bw fr rt : Nat) (pgs : Nat → List Nat) (page : Int) (w : World) (h : ArS w ba bm bw fr rt pgs) (h0 : 1 ≤ page) (h1 : page ≤ 40) :
    Calls Tryz.prog 107 #[.pointer (some ⟨ba, 0, none⟩), .int .i64 page] w fun e w' => e = .returned (.int .i64 0) ∧ Chg [] w w' := by
  obtain ⟨ws, h2, h3⟩ := h
  exact there_w ba bm bw ws page w h2 h3.w0 h0 h1
set_option maxRecDepth 100000 in
set_option maxHeartbeats 1000000 in
theorem kind_s (ba bm bw fr rt : Nat) (pgs : Nat → List Nat) (page : Int) (w : World) (h : ArS w ba bm bw fr rt pgs) (h0 : 1 ≤ page) (h1 : page ≤ 40) :
    Calls Tryz.prog 141 #[.pointer (some ⟨ba, 0, none⟩), .int .i64 page] w fun e w' => e = .returned (.int .u64 (wd (pgs page.toNat) 8)) ∧ Chg [] w w' := by
  obtain ⟨ws, h2, h3⟩ := h
  have := (h3.pg page.toNat (by omega) (by omega)).2.2 8 (by omega)
  rw [← this, show ((page.toNat : Nat) : Int) = page by omega]
  exact kind_w ba bm bw ws page w h2 h0 (by omega) (pl_lt h3 h1 (by omega))
theorem read_s (ba bm bw fr rt : Nat) (pgs : Nat → List Nat) (page : Int) (w : World) (h : ArS w ba bm bw fr rt pgs) (h0 : 1 ≤ page) (h1 : page ≤ 40) :
    Calls Tryz.prog 129 #[.pointer (some ⟨ba, 0, none⟩), .int .i64 page] w fun e w' => e = .returned (.tuple #[.agg (nums (pgs page.toNat)), .int .i64 0]) ∧ Chg [] w w' := by
  obtain ⟨ws, h2, h3⟩ := h
  have hp := h3.pg page.toNat (by omega) (by omega)
  refine (read_w ba bm bw ws page w h2 h3.w0 h0 h1 h3.len).mono ?_
  rintro e w' ⟨cs, hc, hv, rfl, hC⟩
  refine ⟨?_, hC⟩
  have : cs = nums (pgs page.toNat) := by
    apply Array.ext_getElem?
    intro i
    by_cases hi : i < 128
    · rw [hv i hi, nums_get (by omega), ← hp.2.2 i hi, show ((page.toNat : Nat) : Int) = page by omega]
    · rw [Array.getElem?_eq_none (by omega), Array.getElem?_eq_none (by rw [nums_size]; omega)]
  rw [this]

/-- Whether a page is used. -/
def usedB (pgs : Nat → List Nat) (p : Nat) : Bool := decide (1 ≤ wd (pgs p) 8) && decide (wd (pgs p) 8 ≤ 6)
set_option maxRecDepth 100000 in
set_option maxHeartbeats 1000000 in
theorem used_s (ba bm bw fr rt : Nat) (pgs : Nat → List Nat) (page : Int) (w : World) (h : ArS w ba bm bw fr rt pgs) (h0 : 1 ≤ page) (h1 : page ≤ 40) :
    Calls Tryz.prog 108 #[.pointer (some ⟨ba, 0, none⟩), .int .i64 page] w fun e w' => e = .returned (.bool (usedB pgs page.toNat)) ∧ Chg [] w w' := by
  have hu : usedB pgs page.toNat = (decide (1 ≤ wd (pgs page.toNat) 8) && decide (wd (pgs page.toNat) 8 ≤ 6)) := rfl
  have Hu := Lib.hid hu
  clear hu
  by_cases hk : 1 ≤ wd (pgs page.toNat) 8
  · go_enter Tryz.func108, Tryz.ntmps108
    go_wp2_with (go_at_call 141; refine (kind_s ba bm bw fr rt pgs page _ h h0 h1).mono ?_; rintro e w1 ⟨rfl, hC⟩)
    go_ret
    exact ⟨by rw [Hu.out]; simp [hk], hC⟩
  · go_enter Tryz.func108, Tryz.ntmps108
    go_wp2_with (go_at_call 141; refine (kind_s ba bm bw fr rt pgs page _ h h0 h1).mono ?_; rintro e w1 ⟨rfl, hC⟩)
    go_ret
    exact ⟨by rw [Hu.out]; simp; omega, hC⟩

set_option maxRecDepth 100000 in
set_option maxHeartbeats 1000000 in
theorem root_s (ba bm bw fr rt : Nat) (pgs : Nat → List Nat) (w : World) (h : ArS w ba bm bw fr rt pgs) (hr : rt ≤ 40) :
    Calls Tryz.prog 109 #[.pointer (some ⟨ba, 0, none⟩)] w fun e w' => e = .returned (.int .i64 rt) ∧ Chg [] w w' := by
  have hc := h.cell
  obtain ⟨ws, h2, h3⟩ := id h
  have hl := h3.len
  have hw3 := h3.w3
  have b3 : wd ws 3 ≤ 40 := by omega
  have b4 : 0 ≤ wd ws 3 := by omega
  have Hw := Lib.hid hw3
  clear hw3
  go_enter Tryz.func109, Tryz.ntmps109
  go_wp2_with (first | (go_at_call 63; refine (none_s ba bm bw fr rt pgs _ h).mono ?_; rintro e w1 ⟨rfl, rfl⟩) | (go_at_call 65; refine (get_w bm bw ws 3 _ h2.m (by omega) (by omega)).mono ?_; rintro e w1 ⟨rfl, hC⟩))
  go_ret
  exact ⟨by rw [← Hw.out]; simp, hC⟩

set_option maxRecDepth 100000 in
set_option maxHeartbeats 1000000 in
theorem busy_s (ba bm bw fr rt : Nat) (pgs : Nat → List Nat) (page : Int) (b : Bool) (w : World) (h : ArS w ba bm bw fr rt pgs) (h0 : 1 ≤ page) (h1 : page ≤ 40) (hu : usedB pgs page.toNat = true) (hr : rt ≤ 40) (hb : b = true → (rt : Int) ≠ page) :
    Calls Tryz.prog 67 #[.pointer (some ⟨ba, 0, none⟩), .int .i64 page, .bool b] w fun e w' => e = .returned (.int .i64 0) ∧ Chg [] w w' := by
  have Hu := Lib.hid hu
  clear hu
  cases b with
  | false =>
    clear hb
    go_enter Tryz.func67, Tryz.ntmps67
    go_wp2_with (first | (go_at_call 107; refine (there_s ba bm bw fr rt pgs page _ h h0 h1).mono ?_; rintro e w1 ⟨rfl, hC1⟩) | (go_at_call 108; refine (used_s ba bm bw fr rt pgs page _ (h.ext hC1) h0 h1).mono ?_; rintro e w2 ⟨rfl, hC2⟩; rw [Hu.out]))
    go_ret
    exact ⟨rfl, by (with_reducible repeat (first | exact Chg.refl _ _ | assumption | refine Chg.alloc ?_ _ | refine Chg.drewN ?_ _ | refine Chg.drew ?_ | refine Chg.set ?_ _ (by simp <;> omega) _ | refine Chg.nil ?_ (by assumption)))⟩
  | true =>
    have hne : ((rt : Int) == page) = false := beq_eq_false_iff_ne.2 (hb rfl)
    clear hb
    go_enter Tryz.func67, Tryz.ntmps67
    go_wp2_with (first | (go_at_call 107; refine (there_s ba bm bw fr rt pgs page _ h h0 h1).mono ?_; rintro e w1 ⟨rfl, hC1⟩) | (go_at_call 108; refine (used_s ba bm bw fr rt pgs page _ (h.ext hC1) h0 h1).mono ?_; rintro e w2 ⟨rfl, hC2⟩; rw [Hu.out]) | (go_at_call 109; refine (root_s ba bm bw fr rt pgs _ (h.ext (hC1.trans hC2)) hr).mono ?_; rintro e w3 ⟨rfl, hC3⟩))
    go_ret
    exact ⟨rfl, (hC1.trans hC2).trans hC3⟩

end Go.Proofs.YtpcaadipejnllaaGreatDoor

/- The arena's root set; its used pages; its counts. -/
set_option linter.unusedVariables false
set_option linter.unusedSimpArgs false
namespace Go.Proofs.YtpcaadipejnllaaGreatDoor
open Go.RowKit

theorem IsAr.setHead {ws : List Nat} {fr rt : Nat} {pgs : Nat → List Nat} (h : IsAr ws fr rt pgs) {k v : Nat} (hk : k < 16) (h0 : k ≠ 0) :
    IsAr (ws.set k v) (if k = 1 then v else fr) (if k = 3 then v else rt) pgs := by
  have hl := h.len
  have hs : ∀ j, wd (ws.set k v) j = if k = j then (v : Int) else wd ws j := fun j => wd_set ws k j v (by omega)
  refine ⟨by simpa using h.len, by rw [hs, if_neg h0]; exact h.w0, ?_, ?_, fun p hp1 hp2 => ?_⟩
  · rw [hs]; split <;> simp_all [h.w1]
  · rw [hs]; split <;> simp_all [h.w3]
  · obtain ⟨a, b, c⟩ := h.pg p hp1 hp2
    refine ⟨a, b, fun i hi => ?_⟩
    rw [hs, if_neg (by unfold pl; omega)]
    exact c i hi

set_option maxRecDepth 100000 in
set_option maxHeartbeats 1000000 in
theorem setroot_s (ba bm bw fr rt : Nat) (pgs : Nat → List Nat) (page : Int) (w : World) (h : ArS w ba bm bw fr rt pgs) (h0 : 1 ≤ page) (h1 : page ≤ 40) (hu : usedB pgs page.toNat = true) (hr : rt ≤ 40) :
    Calls Tryz.prog 26 #[.pointer (some ⟨ba, 0, none⟩), .int .i64 page] w fun e w' => e = .returned (.int .i64 0) ∧ Chg [bw] w w' ∧ ArS w' ba bm bw fr page.toNat pgs := by
  have hne : (page != 0) = true := by rw [bne_iff_ne]; omega
  obtain ⟨p, rfl⟩ := Int.eq_ofNat_of_zero_le (show 0 ≤ page by omega)
  rw [Int.toNat_natCast] at hu ⊢
  have Hu := Lib.hid hu
  clear hu
  go_enter Tryz.func26, Tryz.ntmps26
  go_wp2_with (first | (go_at_call 63; refine (none_s ba bm bw fr rt pgs _ h).mono ?_; rintro e w1 ⟨rfl, rfl⟩) | (go_at_call 67; refine (busy_s ba bm bw fr rt pgs p false _ h h0 h1 Hu.out hr (fun h => by cases h)).mono ?_; rintro e w1 ⟨rfl, hC1⟩; obtain ⟨ws, hA, hI⟩ := h.ext hC1; have hc := hA.cell; have hl := hI.len) | (go_at_call 60; refine (set_w bm bw ws 3 p _ hA.m (by omega) (by omega) (by omega)).mono ?_; rintro e w2 ⟨rfl, hC2, hM2⟩))
  go_ret
  refine ⟨rfl, (hC1.mono (by simp)).trans hC2, _, hA.into hC2 hM2, ?_⟩
  exact hI.setHead (k := 3) (by omega) (by omega)

/-- The used pages up to one. -/
def usedUp (pgs : Nat → List Nat) (k : Nat) : List Int := ((List.range k).map (· + 1)).filter (fun p => usedB pgs p) |>.map (fun (p : Nat) => (p : Int))
theorem usedUp_succ (pgs : Nat → List Nat) (k : Nat) : usedUp pgs (k + 1) = usedUp pgs k ++ (if usedB pgs (k + 1) then [((k + 1 : Nat) : Int)] else []) := by
  unfold usedUp
  rw [List.range_succ, List.map_append, List.filter_append, List.map_append]
  by_cases h : usedB pgs (k + 1) = true <;> simp [h]
theorem usedUp_len (pgs : Nat → List Nat) (k : Nat) : (usedUp pgs k).length ≤ k := by
  unfold usedUp
  rw [List.length_map]
  exact Nat.le_trans (List.length_filter_le _ _) (by simp)

theorem info3 : (Tryz.prog.info? 3).map (fun i => (i.zero, i.size, i.bytes)) = some (some (.int .i64 0), 1, 8) := by kernel_rfl

set_option maxRecDepth 100000 in
set_option maxHeartbeats 1000000 in
theorem used_list_s (ba bm bw fr rt : Nat) (pgs : Nat → List Nat) (w : World) (h : ArS w ba bm bw fr rt pgs) :
    Calls Tryz.prog 98 #[.pointer (some ⟨ba, 0, none⟩)] w fun e w' => ∃ v, e = .returned v ∧ w'.ownsRow w.heap.size 3 1 v (usedUp pgs 40).length (ints (usedUp pgs 40)) ∧ Chg [] w w' := by
  obtain ⟨i0, hi, hz0, hz1, hz2⟩ := info_parts info3
  go_enter Tryz.func98, Tryz.ntmps98
  go_wp2_with (first | (go_at_call 63; refine (none_s ba bm bw fr rt pgs _ h).mono ?_; rintro e w1 ⟨rfl, rfl⟩))
  go_loopw [3, 4] (fun v i wr => ∃ k : Nat, k ≤ 40 ∧ i = .int .i64 ((k : Int) + 1) ∧ Chg [] w wr ∧ wr.ownsRow w.heap.size 3 1 v (usedUp pgs k).length (ints (usedUp pgs k))) (fun _ i _ => 41 - (intOf i).toNat)
  case atStart => exact ⟨0, by omega, rfl, Chg.refl _ _, World.ownsRow_nil _ _ _ _⟩
  case round =>
    obtain ⟨k, hk, rfl, hC, hown⟩ := hrel
    have hlen := usedUp_len pgs k
    have hsz := hC.size
    by_cases hlt : k < 40
    · have hsu := usedUp_succ pgs k
      obtain ⟨b, hb⟩ : ∃ b, usedB pgs (k + 1) = b := ⟨_, rfl⟩
      rw [hb] at hsu
      have Hb := Lib.hid hb
      have Hs := Lib.hid hsu
      clear hb hsu
      cases b with
      | true =>
        go_wp2_with (first
          | (go_at_call 133; refine (pages_s ba bm bw fr rt pgs _ (h.ext hC)).mono ?_; rintro e w1 ⟨rfl, hC1⟩)
          | (go_at_call 108; refine (used_s ba bm bw fr rt pgs _ _ (h.ext (hC.trans hC1)) (by omega) (by omega)).mono ?_; rintro e w2 ⟨rfl, hC2⟩; rw [show ((k : Int) + 1).toNat = k + 1 by omega, Hb.out]; have hown2 := own_ext hown (hC1.trans hC2); have hCC := (hC.trans hC1).trans hC2; have hsz2 := hCC.size)
          | (at_builtin; refine wpList_append_own _ rfl _ _ 39 rfl w.heap.size 3 i0 (.int .i64 0) 1 8 Tryz.underlying39 hi hz0 hz1 hz2 rfl (by decide) _ _ _ rfl (hown2.alloc _) ⟨w2.heap.size, 0, none⟩ 1 1 [.int .i64 ((k : Int) + 1)] rfl rfl (one_at _ _ _) (by simp [Value.oneCell']) (by unfold maxLen; omega) (by omega) (by simp; omega) ?_; intro v' w3 hown3 hg3 _))
        have hC3 := (hCC.alloc _).app (hown2.alloc _) (Nat.le_refl _) hg3
        go_roundw
        case rel => exact ⟨k + 1, by omega, by go_num, hC3, by rw [Hs.out]; simpa [ints] using hown3⟩
        case measure => simp [intOf]; omega
      | false =>
        go_wp2_with (first
          | (go_at_call 133; refine (pages_s ba bm bw fr rt pgs _ (h.ext hC)).mono ?_; rintro e w1 ⟨rfl, hC1⟩)
          | (go_at_call 108; refine (used_s ba bm bw fr rt pgs _ _ (h.ext (hC.trans hC1)) (by omega) (by omega)).mono ?_; rintro e w2 ⟨rfl, hC2⟩; rw [show ((k : Int) + 1).toNat = k + 1 by omega, Hb.out]; have hown2 := own_ext hown (hC1.trans hC2); have hCC := (hC.trans hC1).trans hC2; have hsz2 := hCC.size))
        go_roundw
        case rel => exact ⟨k + 1, by omega, by go_num, hCC, by rw [Hs.out]; simpa [ints] using hown2⟩
        case measure => simp [intOf]; omega
    · go_wp2_with (first | (go_at_call 133; refine (pages_s ba bm bw fr rt pgs _ (h.ext hC)).mono ?_; rintro e w1 ⟨rfl, hC1⟩))
      obtain rfl : k = 40 := by omega
      go_ret
      exact ⟨_, rfl, own_ext hown hC1, hC.trans hC1⟩

end Go.Proofs.YtpcaadipejnllaaGreatDoor
