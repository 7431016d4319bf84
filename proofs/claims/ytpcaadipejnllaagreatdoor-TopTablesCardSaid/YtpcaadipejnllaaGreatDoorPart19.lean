/- What rounds keep; an operation of the plain walk in a walk with a fence. -/
import Derived.RangeFuncNested
import Derived.RangeFuncBound
import Derived.RangeFuncCalls
import Derived.RangeFuncLeaves
import Derived.Shelf.Abstract
import Derived.Shelf.RegionOpen
import Derived.WalkKit
import Derived.OwnWalkIn
import Derived.TacticsInMore
import Derived.LoopNIn
import Derived.LoopIn
import Derived.Test.YtpcaadipejnllaaGreatDoorPart18
import Derived.WalkLawsBesides

set_option linter.unusedVariables false
set_option linter.unusedSimpArgs false
namespace Go.Proofs.YtpcaadipejnllaaGreatDoor
open Go.RowKit Go.Shelf

/-! ### What a round may write: the box of the list and the list's own memory -/
def Ow (Bl : Nat) (W : World) (k : Nat) : Prop := k = Bl ∨ ∃ v, Blk W Bl 94 #[v] ∧ v.ownBlock = some k
def OwLt (Bl : Nat) (W : World) : Prop := ∀ k, Ow Bl W k → k < W.heap.size
def KpS (Bl Z : Nat) (W W' : World) : Prop :=
  ∃ S, Chg S W W' ∧ (∀ k ∈ S, (Ow Bl W k ∧ ∃ o, W.heap[k]? = some o ∧ o.isCells = true) ∨ (k < Z ∧ ∃ o, W.heap[k]? = some o ∧ o.isCells = false)) ∧ (∀ k, Ow Bl W' k → Ow Bl W k ∨ W.heap.size ≤ k) ∧ (OwLt Bl W → OwLt Bl W')

section
variable {Bl Z : Nat} {A B C W W' : World}
theorem Ow.back (hl : Bl < W.heap.size) (hc : Chg [] W W') {k : Nat} (h : Ow Bl W' k) : Ow Bl W k := by
  rcases h with h | ⟨v, hv, ho⟩
  · exact .inl h
  · exact .inr ⟨v, (hc.block Bl hl (by simp)).symm.trans hv, ho⟩
theorem KpS.of_chg (hl : Bl < W.heap.size) (hc : Chg [] W W') : KpS Bl Z W W' :=
  ⟨[], hc, by simp, fun k h => .inl (h.back hl hc), fun h k hk => Nat.lt_of_lt_of_le (h k (hk.back hl hc)) hc.size⟩
theorem KpS.trans (h : KpS Bl Z A B) (k : KpS Bl Z B C) : KpS Bl Z A C := by
  obtain ⟨S, h1, h2, h3, h4⟩ := h
  obtain ⟨T, k1, k2, k3, k4⟩ := k
  refine ⟨S ++ T.filter (· < A.heap.size), (h1.mono (T := S) (by simp +contextual)).on k1 (fun i hi => ?_), fun i hi => ?_, fun i hi => ?_, fun h => k4 (h4 h)⟩
  · by_cases hs : i < A.heap.size
    · exact .inl (by simp [hi, hs])
    · exact .inr (by omega)
  · rcases List.mem_append.1 hi with hi | hi
    · exact h2 i hi
    · obtain ⟨hi, hs⟩ := List.mem_filter.1 hi
      have hs : i < A.heap.size := by simpa using hs
      by_cases hS : i ∈ S
      · exact h2 i hS
      rcases k2 i hi with ⟨h, o, ho, hc⟩ | ⟨hz, o, ho, hc⟩
      · rcases h3 i h with h | h
        · exact .inl ⟨h, o, (h1.block i hs hS).symm.trans ho, hc⟩
        · omega
      · exact .inr ⟨hz, o, (h1.block i hs hS).symm.trans ho, hc⟩
  · rcases k3 i hi with h | h
    · exact h3 i h
    · exact .inr (Nat.le_trans h1.size h)
theorem KpS.putObj (l : Nat) (o o' : Obj) (hl : Bl < l) (hz : l < Z) (h : W.heap[l]? = some o) (hc : o.isCells = false) : KpS Bl Z W (W.putObj l o') := by
  have hg : Chg [l] W (W.putObj l o') := Chg.of_grown (grownBy_putObj' W l o')
  have hb : ∀ k, Ow Bl (W.putObj l o') k → Ow Bl W k := fun k hk => by
    rcases hk with hk | ⟨v, hv, ho⟩
    · exact .inl hk
    · exact .inr ⟨v, (World.putObj_heap_other (by omega)).symm.trans hv, ho⟩
  exact ⟨[l], hg, fun k hk => .inr (by simp at hk; subst hk; exact ⟨hz, o, h, hc⟩), fun k hk => .inl (hb k hk), fun h k hk => Nat.lt_of_lt_of_le (h k (hb k hk)) hg.size⟩
theorem KpS.out (h : KpS Bl Z W W') : ∃ S, Chg S W W' ∧ ∀ g, ¬ Ow Bl W g → (∃ o, W.heap[g]? = some o ∧ o.isCells = true) → g ∉ S := by
  obtain ⟨S, h1, h2, _⟩ := h
  refine ⟨S, h1, fun g hg ⟨o, ho, hc⟩ hm => ?_⟩
  rcases h2 g hm with ⟨h, _⟩ | ⟨_, o2, h, hn⟩
  · exact hg h
  · rw [ho] at h; cases h; rw [hc] at hn; cases hn
theorem KpS.not (h : KpS Bl Z W W') {g : Nat} (hg : ¬ Ow Bl W g) (hl : g < W.heap.size) : ¬ Ow Bl W' g := fun ho => by
  obtain ⟨S, h1, h2, h3, _⟩ := h
  rcases h3 g ho with h | h
  · exact hg h
  · omega
theorem KpS.size (h : KpS Bl Z W W') : W.heap.size ≤ W'.heap.size := by obtain ⟨S, h1, _⟩ := h; exact h1.size
theorem KpS.lt (h : KpS Bl Z W W') (hl : OwLt Bl W) : OwLt Bl W' := by obtain ⟨S, _, _, _, h4⟩ := h; exact h4 hl
theorem KpS.mono {Z' : Nat} (h : KpS Bl Z W W') (hz : Z ≤ Z') : KpS Bl Z' W W' := by
  obtain ⟨S, h1, h2, h3⟩ := h
  exact ⟨S, h1, fun k hk => (h2 k hk).imp id (fun ⟨a, b⟩ => ⟨by omega, b⟩), h3⟩
theorem KpS.from {B : Nat} (h : KpS Bl Z W W') (hz : Z ≤ B) : KeepsFrom B W W' := by
  obtain ⟨S, h1, h2, _⟩ := h
  refine ⟨h1.size, fun k o hB hk ho => (h1.block k (Array.getElem?_eq_some_iff.1 hk).1 (fun hS => ?_)).trans hk⟩
  rcases h2 k hS with ⟨_, o2, h, hc⟩ | ⟨h, _⟩
  · rw [hk] at h; cases h; rw [ho] at hc; cases hc
  · omega
theorem Blk.isC {g : Nat} {t : TypeId} {cs : Array Value} (h : Blk W g t cs) : ∃ o, W.heap[g]? = some o ∧ o.isCells = true := ⟨_, h, rfl⟩

/-- A block of ours. -/
def Kept (Bl : Nat) (W : World) (g : Nat) (t : TypeId) (cs : Array Value) : Prop := Blk W g t cs ∧ ¬ Ow Bl W g
theorem Kept.kp {g : Nat} {t : TypeId} {cs : Array Value} (h : Kept Bl W g t cs) (k : KpS Bl Z W W') : Kept Bl W' g t cs := by
  obtain ⟨S, h1, h2⟩ := k.out
  exact ⟨h.1.chg h1 (h2 g h.2 h.1.isC), k.not h.2 h.1.lt⟩
theorem Kept.ext {g : Nat} {t : TypeId} {cs : Array Value} (h : Kept Bl W g t cs) (hl : Bl < W.heap.size) (hc : Chg [] W W') : Kept Bl W' g t cs := h.kp (Z := 0) (.of_chg hl hc)
theorem OwLt.new (h : OwLt Bl W) (hl : Bl < W.heap.size) (hc : Chg [] W W') {g : Nat} (hg : W.heap.size ≤ g) : ¬ Ow Bl W' g := fun ho => by
  have := h g (ho.back hl hc); omega

/-- A row of ours. -/
def KRow (Bl : Nat) (W : World) (s o : Nat) (xs : List Value) : Prop := s < W.heap.size ∧ ¬ Ow Bl W s ∧ ∀ j, j < xs.length → W.cell? ⟨s, o + j, none⟩ = xs[j]?
theorem isC_of_cell {g o : Nat} {v : Value} (h : W.cell? ⟨g, o, none⟩ = some v) : ∃ b, W.heap[g]? = some b ∧ b.isCells = true := by
  unfold World.cell? at h
  cases ho : W.heap[g]? with
  | none => simp [ho] at h
  | some b => exact ⟨b, rfl, by cases b <;> simp_all [Obj.isCells]⟩
theorem KRow.kp {s o : Nat} {xs : List Value} (h : KRow Bl W s o xs) (k : KpS Bl Z W W') : KRow Bl W' s o xs := by
  obtain ⟨S, h1, h2⟩ := k.out
  obtain ⟨hs, ho, hx⟩ := h
  refine ⟨Nat.lt_of_lt_of_le hs k.size, k.not ho hs, fun j hj => ?_⟩
  have h0 := hx j hj
  rw [h1.cell hs (h2 s ho (isC_of_cell (h0.trans (List.getElem?_eq_getElem hj))))]
  exact h0
theorem KRow.ext {s o : Nat} {xs : List Value} (h : KRow Bl W s o xs) (hl : Bl < W.heap.size) (hc : Chg [] W W') : KRow Bl W' s o xs := h.kp (Z := 0) (.of_chg hl hc)
theorem KRow.rng {s o : Nat} {l : List Pr} (h : KRow Bl W s o (prs l)) {k : Nat} {x : Pr} (hx : l[k]? = some x) : W.rangeAt s (o + k * 2) [.string x.1, .string x.2] := fun j u hj => by
  obtain ⟨_, _, hc⟩ := h
  have hk := (List.getElem?_eq_some_iff.1 hx).1
  obtain ⟨e1, e2⟩ := prs_get l k x hx
  have hlen := prs_len l
  match j, hj with
  | 0, hj => rw [Nat.add_zero, hc _ (by omega), e1]; exact hj
  | 1, hj => rw [Nat.add_assoc, hc _ (by omega), e2]; exact hj

theorem ArS.isC {ba bm bw fr rt : Nat} {pgs : Nat → List Nat} (h : ArS W ba bm bw fr rt pgs) : (∃ o, W.heap[ba]? = some o ∧ o.isCells = true) ∧ (∃ o, W.heap[bm]? = some o ∧ o.isCells = true) ∧ (∃ o, W.heap[bw]? = some o ∧ o.isCells = true) := by
  obtain ⟨ws, h1, h2⟩ := h
  obtain ⟨_, _, h3, h4, _⟩ := h1.m.hd
  exact ⟨h1.a.isC, h3.isC, h4.isC⟩
/-- The arena that the rounds do not write. -/
def KAr (Bl : Nat) (W : World) (ba bm bw fr rt : Nat) (pgs : Nat → List Nat) : Prop := ArS W ba bm bw fr rt pgs ∧ ¬ Ow Bl W ba ∧ ¬ Ow Bl W bm ∧ ¬ Ow Bl W bw
theorem KAr.kp {ba bm bw fr rt : Nat} {pgs : Nat → List Nat} (h : KAr Bl W ba bm bw fr rt pgs) (k : KpS Bl Z W W') : KAr Bl W' ba bm bw fr rt pgs := by
  obtain ⟨S, h1, h2⟩ := k.out
  obtain ⟨hA, n1, n2, n3⟩ := h
  obtain ⟨c1, c2, c3⟩ := hA.isC
  obtain ⟨l1, l2, l3⟩ := hA.lt
  exact ⟨hA.chg h1 (h2 _ n1 c1) (h2 _ n2 c2) (h2 _ n3 c3), k.not n1 l1, k.not n2 l2, k.not n3 l3⟩
end

theorem abN {β : Type} {J : β → World → Prop} {n : Nat} (hJ : OwnFrom n J) {s : β} {W W' : World} (h : J s W) (hc : Chg [] W W') : J s W' :=
  hJ s W W' none h ⟨hc.os, hc.tape, hc.output, hc.size, fun k hk _ => hc.block k hk (by simp)⟩ (by simp)

/-- What an iterator over the pairs Xs promises. -/
def Seq9 (gf : Nat) (lb : Array Value) (enc : Pr → Array Value) (Bl : Nat) (Xs : List Pr) (w0 : World) : Prop :=
  ∀ (n l : Nat) (J Jx : List Pr → World → Prop) (W : World), Below w0.heap.size w0 W → OwnFrom W.heap.size J → OwnFrom W.heap.size Jx →
    (∀ pre x W1 m, J pre W1 → pre ++ [x] <+: Xs → YieldAt Fence.wide m Tryz.prog l (enc x) W1 fun e W' =>
      (e = .returned (.bool true) ∧ J (pre ++ [x]) W' ∧ KpS Bl W.heap.size W1 W') ∨ (e = .returned (.bool false) ∧ Jx (pre ++ [x]) W' ∧ KpS Bl W.heap.size W1 W')) →
    J [] W →
    CallsIn Fence.wide n Tryz.prog gf (#[.func (.yield l) #[] #[]] ++ lb) W fun e W' => (∃ v, e = .returned v) ∧ (J Xs W' ∨ ∃ pre, pre <+: Xs ∧ Jx pre W')

/-! ### An operation of the plain walk in a walk with a fence -/
def lifted (F : Fence) (n : Nat) (P : Program) (ops : Array Oper) (Q : Exit → Act → World → Prop) (rest : List Oper) : Exit → Act → World → Prop
  | .normal, a, w => wpListIn F n P ops Q rest a w
  | .outgrown, _, _ => False
  | e, a, w => Q e a w
theorem rowsIn_of_rows {n : Nat} {P : Program} {row : String} {args : Array Value} {w : World} {R : Value → World → Prop} (h : Rows P row args w R) : RowsIn Fence.wide n P row args w R :=
  fun c cs _ => let ⟨v, w', r, s⟩ := h c cs; ⟨v, w', r, stepsIn_wide.2 s⟩
theorem uponIn_lift {n : Nat} {P : Program} {o : Oper} {a : Act} {next next' : Act → World → Prop} {Q Q' : Exit → Act → World → Prop} (hN : ∀ a w, next' a w → next a w) (hQ : ∀ c a w, Q' (.panic c) a w → Q (.panic c) a w) (hno : ¬ LetsOut Q') {r : Result Next} (h : o.upon P a next' Q' r) : o.uponIn Fence.wide n P a next Q r := by
  cases r with
  | ok v w =>
    cases v with
    | enter f args =>
      refine ⟨fun h => (by cases h), callsIn_wide.2 (Calls.mono h (fun e w' he => ?_))⟩
      cases e with
      | returned v => exact hN _ _ he
      | panicked c => exact hQ _ _ _ he
      | outgrown => exact absurd he hno
    | row r args => exact ⟨fun h => (by cases h), rowsIn_of_rows (Rows.mono h (fun v w' he => hN _ _ he))⟩
    | round => exact h.elim
    | value v => exact hN _ _ h
    | skip => exact hN _ _ h
    | defer d => exact hN _ _ h
    | _ => exact h
  | halt e w =>
    cases e with
    | panic v => exact hQ _ _ _ h
    | _ => exact h
theorem uponIn_round_lift {n l : Nat} {P : Program} {o : Oper} {a : Act} {next : Act → World → Prop} {Q : Exit → Act → World → Prop} {r : Result Next} (h : o.uponIn Fence.wide n P a next Q r) : o.uponIn (Fence.wide.inRound l) n P a next Q r := by
  cases r with
  | ok v w => cases v <;> exact h
  | halt e w => cases e <;> exact h
theorem lifted_out {F : Fence} {n : Nat} {P : Program} {ops : Array Oper} {Q : Exit → Act → World → Prop} {rest : List Oper} : ¬ LetsOut (lifted F n P ops Q rest) := fun ⟨a, w, h⟩ => h
theorem wide_fn (f : FuncId) : Fence.wide.fn f = True := rfl
theorem wide_depth : Fence.wide.depth = none := rfl
theorem wpListIn_lift {n : Nat} {P : Program} {ops : Array Oper} {Q : Exit → Act → World → Prop} {o : Oper} {rest : List Oper} {a : Act} {w : World}
    (h : wpList P ops (lifted Fence.wide n P ops Q rest) [o] a w) : wpListIn Fence.wide n P ops Q (o :: rest) a w := by
  unfold wpList at h
  unfold wpListIn
  split at h
  · rename_i hw
    rw [if_pos hw]
    rcases h with h | ⟨_, h⟩
    · refine ⟨fun _ _ => trivial, ?_⟩
      rw [Fence.wide_round, Oper.semAt_none]
      exact uponIn_lift (n := n) (next := wpListIn Fence.wide n P ops Q rest) (Q := Q) (Q' := lifted Fence.wide n P ops Q rest) (next' := wpList P ops (lifted Fence.wide n P ops Q rest) []) (fun _ _ h => h) (fun _ _ _ h => h) lifted_out h
    · exact absurd h lifted_out
  · rename_i hw
    rw [if_neg hw]
    exact ⟨fun _ _ => trivial, h⟩
theorem wpListIn_lift_in {n l : Nat} {P : Program} {ops : Array Oper} {Q : Exit → Act → World → Prop} {o : Oper} {rest : List Oper} {a : Act} {w : World} (hnd : ∀ c, o.op ≠ .defer c)
    (h : wpList P ops (lifted (Fence.wide.inRound l) n P ops Q rest) [o] a w) : wpListIn (Fence.wide.inRound l) n P ops Q (o :: rest) a w := by
  unfold wpList at h
  unfold wpListIn
  split at h
  · rename_i hw
    rw [if_pos hw]
    rcases h with h | ⟨_, h⟩
    · refine ⟨fun _ _ => trivial, uponIn_round_lift ?_⟩
      rw [Fence.inRound_round, Oper.semAt_some l _ _ hnd]
      exact uponIn_lift (n := n) (next := wpListIn (Fence.wide.inRound l) n P ops Q rest) (Q := Q) (Q' := lifted (Fence.wide.inRound l) n P ops Q rest) (next' := wpList P ops (lifted (Fence.wide.inRound l) n P ops Q rest) []) (fun _ _ h => h) (fun _ _ _ h => h) lifted_out h
    · exact absurd h lifted_out
  · rename_i hw
    rw [if_neg hw]
    exact ⟨fun _ _ => trivial, h⟩

end Go.Proofs.YtpcaadipejnllaaGreatDoor

/- The iterator over the pairs from a key on. -/
set_option linter.unusedVariables false
set_option linter.unusedSimpArgs false
namespace Go.Proofs.YtpcaadipejnllaaGreatDoor
open Go.RowKit Go.Shelf
attribute [local go_sem] Oper.semAt_some wide_fn wide_depth

theorem wr64 (n : Int) (h : -9223372036854775808 ≤ n ∧ n ≤ 9223372036854775807) : wrap64 n = n := by unfold wrap64; omega
def fil (key : ByteArray) (l : List Pr) : List Pr := l.filter fun x => decide (0 ≤ cmpS x.1 key)
theorem fil_app (key : ByteArray) (A B : List Pr) : fil key (A ++ B) = fil key A ++ fil key B := List.filter_append ..
theorem fil_none {key : ByteArray} {A : List Pr} (h : ∀ y ∈ A, cmpS y.1 key < 0) : fil key A = [] := by
  unfold fil
  rw [List.filter_eq_nil_iff]
  intro y hy
  have := h y hy
  simp; omega
theorem fil_all {key : ByteArray} {A : List Pr} (h : ∀ y ∈ A, 0 ≤ cmpS y.1 key) : fil key A = A := by
  unfold fil
  rw [List.filter_eq_self]
  intro y hy
  simpa using h y hy
theorem PlaceAt.fil {l : List Pr} {key : ByteArray} {i : Nat} {is : Bool} (h : PlaceAt l key i is) : fil key l = l.drop i := by
  have e : l = l.take i ++ l.drop i := (List.take_append_drop i l).symm
  conv => lhs; rw [e]
  rw [fil_app, fil_none, fil_all, List.nil_append]
  · intro y hy
    obtain ⟨j, hj, rfl⟩ := List.mem_iff_getElem.1 hy
    exact h.hi (i + j) _ (by omega) (by rw [← List.getElem?_drop]; exact List.getElem?_eq_getElem hj)
  · intro y hy
    obtain ⟨j, hj, rfl⟩ := List.mem_iff_getElem.1 hy
    have hj' : j < i := by simp at hj; omega
    refine h.lo j _ hj' ?_
    rw [List.getElem?_eq_getElem (by simp at hj; omega), List.getElem_take]

def leftL (ls : List Lf) (p : Value) : Nat := (ls.dropWhile (fun y => decide (y.p ≠ (intOf p).toNat))).length
theorem leftL_eq {fr : Nat} {pgs : Nat → List Nat} {ls D R : List Lf} {ex fl : List Nat} (hM : Mid fr pgs ls ex fl) (h : ls = D ++ R) : leftL ls (.int .i64 (nxL 0 R : Nat)) = R.length := by
  have hr : ∀ y ∈ ls, 1 ≤ y.p := fun y hy => (hM.rng hy).1
  have hn : (pgsOf ls).Nodup := (List.nodup_append.1 (List.nodup_append.1 hM.nd).1).2.1
  unfold leftL
  have e0 : (intOf (Value.int .i64 (nxL 0 R : Nat))).toNat = nxL 0 R := Int.toNat_natCast _
  rw [e0, h]
  rw [h] at hr hn
  clear h hM e0
  have key : ∀ D : List Lf, (∀ y ∈ D, y.p ≠ nxL 0 R) → (D ++ R).dropWhile (fun y => decide (y.p ≠ nxL 0 R)) = R.dropWhile (fun y => decide (y.p ≠ nxL 0 R)) := by
    intro D
    induction D with
    | nil => intro _; rfl
    | cons d D ih =>
      intro h
      rw [List.cons_append, List.dropWhile_cons_of_pos (by simpa using h d (by simp))]
      exact ih (fun y hy => h y (by simp [hy]))
  rw [key D]
  · cases R with
    | nil => rfl
    | cons y R => rw [List.dropWhile_cons_of_neg (by simp [nxL])]
  · intro y hy e
    cases R with
    | nil => have := hr y (by simp [hy]); simp [nxL] at e; omega
    | cons z R =>
      rw [pgsOf, List.map_append, List.nodup_append] at hn
      exact hn.2.2 y.p (List.mem_map.2 ⟨y, hy, rfl⟩) z.p (by simp) e

def encP (x : Pr) : Array Value := #[.agg #[.string x.1, .string x.2]]

/-- What the iterator reads. -/
structure Src (Bl : Nat) (W : World) (b2 b3 ba bm bw fr rt : Nat) (pgs : Nat → List Nat) (key : ByteArray) : Prop where
  a : Kept Bl W b2 64 #[.pointer (some ⟨ba, 0, none⟩)]
  k : Kept Bl W b3 9 #[.string key]
  ar : KAr Bl W ba bm bw fr rt pgs
  lt : OwLt Bl W
  bl : Bl < W.heap.size
theorem Src.kp {Bl : Nat} {W W' : World} {b2 b3 ba bm bw fr rt : Nat} {pgs : Nat → List Nat} {key : ByteArray} (h : Src Bl W b2 b3 ba bm bw fr rt pgs key) {Z : Nat} (k : KpS Bl Z W W') : Src Bl W' b2 b3 ba bm bw fr rt pgs key :=
  ⟨h.a.kp k, h.k.kp k, h.ar.kp k, k.lt h.lt, Nat.lt_of_lt_of_le h.bl k.size⟩
theorem Src.ext {Bl : Nat} {W W' : World} {b2 b3 ba bm bw fr rt : Nat} {pgs : Nat → List Nat} {key : ByteArray} (h : Src Bl W b2 b3 ba bm bw fr rt pgs key) (hc : Chg [] W W') : Src Bl W' b2 b3 ba bm bw fr rt pgs key := h.kp (Z := 0) (.of_chg h.bl hc)

set_option maxRecDepth 100000 in
set_option maxHeartbeats 4000000 in
theorem from_seq (Bl b1 b2 b3 ba bm bw fr rt : Nat) (pgs : Nat → List Nat) (key : ByteArray) (ls A R0 : List Lf) (ex fl : List Nat) (hM : Mid fr pgs ls ex fl) (hls : ls = A ++ R0) (w0 : World) (hb1 : Kept Bl w0 b1 3 #[.int .i64 (nxL 0 R0 : Nat)]) (hS0 : Src Bl w0 b2 b3 ba bm bw fr rt pgs key) :
    Seq9 160 #[.pointer (some ⟨b1, 0, none⟩), .pointer (some ⟨b2, 0, none⟩), .pointer (some ⟨b3, 0, none⟩)] encP Bl (fil key (flat R0)) w0 := fun n l J Jx W hW hJ hJx hY h0 => by
  have hCW : Chg [] w0 W := .of_below hW
  have hSW := hS0.ext hCW
  have hbW := (hb1.ext hS0.bl hCW).1.cell 0
  clear hb1
  refine callsIn_of_wp Tryz.func160 rfl trivial ?_ rfl
  simp only [Tryz.ntmps160, List.size_toArray, List.length_cons, List.length_nil, Nat.reduceAdd, Nat.reduceSub, Array.replicate_succ, Array.replicate_zero, List.push_toArray, List.append_toArray, List.nil_append, List.cons_append]
  gi_wp2
  gi_loopw [5] (fun p wr => ∃ (D R : List Lf) (pre : List Pr), ls = D ++ R ∧ p = .int .i64 (nxL 0 R : Nat) ∧ fil key (flat R0) = pre ++ fil key (flat R) ∧ J pre wr ∧ Src Bl wr b2 b3 ba bm bw fr rt pgs key) (fun p _ => leftL ls p)
  case atStart => exact ⟨A, R0, [], hls, rfl, rfl, h0, hSW⟩
  case round =>
    obtain ⟨D, R, pre, hD, rfl, hX, hJr, hSr⟩ := hrel
    have Hmu := leftL_eq hM hD
    cases R with
    | nil =>
      gi_wp2
      go_end0
      have e9 : fil key (flat R0) = pre := by simpa [fil, flat] using hX
      rw [e9]
      exact ⟨⟨_, rfl⟩, .inl hJr⟩
    | cons y R =>
      obtain ⟨ry1, ry2⟩ := hM.rng (x := y) (by rw [hD]; simp)
      have hMy := hM
      rw [hD] at hMy
      have hyl := (Mid.fence (A := D) (B := R) (x := y) hMy).1.is
      have hlP : (pgs y.p).length = 128 := hyl.head.len
      have hny : (nxL 0 (y :: R) : Int) = y.p := rfl
      have hne : ¬ ((y.p : Int) = 0) := by omega
      obtain ⟨hSz⟩ : Nonempty ((nums (pgs y.p)).size = 128) := ⟨by rw [nums_size]; exact hlP⟩
      have hone : (nums (pgs y.p)).all (·.oneCell') = true := nums_one _
      have a2 := hSr.a.1.cell 0
      have a3 := hSr.k.1.cell 0
      rw [hny]
      clear hMy
      gi_wp2_with (first
        | (gi_at_call 129; refine (callsIn_wide.2 (read_s ba bm bw fr rt pgs y.p wr hSr.ar.1 (by omega) (by omega))).mono ?_; rintro e w1 ⟨rfl, hC1⟩; rw [Int.toNat_natCast])
        | (refine wpListIn_lift ?_; refine wpList_store_blk rfl 72 (.tmp 6) (.tmp 21) rfl w1.heap.size rfl (nums (pgs y.p)) rfl 72 _ (Blk.new w1 72 _) (hSz ▸ (by kernel_rfl)) (by rw [hSz]; rfl) hone ?_; intro w2 hC2 hs2 hP2; have hCC2 : Chg [] wr w2 := (hC1.alloc _).on hC2 (fun i hi => .inr (by simp at hi; have := hC1.size; omega)); have hss2 : w2.heap.size = w1.heap.size + 1 := (by rw [hs2]; simp); have Hs2 := Lib.hid hss2; have hS2 := hSr.ext hCC2; have k2 := hS2.k.1.cell 0; have Hn2 := Lib.hid (hSr.lt.new hSr.bl hCC2 hC1.size); clear hss2 hs2; change wpListIn _ _ _ _ _ _ _ _)
        | (refine wpListIn_lift ?_; refine wpList_load_rowg (by rfl) 72 (.tmp 6) rfl w1.heap.size rfl 72 (nums (pgs y.p)) (0, 0) _ hP2 Tryz.underlying72 rfl (hSz ▸ (by kernel_rfl)) ?_; change wpListIn _ _ _ _ _ _ _ _)
        | (gi_at_call 161; refine (callsIn_wide.2 (find_w _ _ key w2 hyl)).mono ?_; rintro e w3 ⟨i, is, rfl, hPl, hC3⟩; have hB3 := hP2.ext hC3)
        | (refine wpListIn_lift ?_; refine wpList_load_rowg (by rfl) 72 (.tmp 6) rfl w1.heap.size rfl 72 (nums (pgs y.p)) (0, 0) _ hB3 Tryz.underlying72 rfl (hSz ▸ (by kernel_rfl)) ?_; change wpListIn _ _ _ _ _ _ _ _))
      refine (callsIn_wide.2 (pairs_w _ _ w3 hyl)).mono ?_
      rintro e w4 ⟨v, rfl, hv, hC4⟩
      have hv : w4.ownsRow w3.heap.size 93 2 v y.l.length (prs y.l) := hv
      have hPl : PlaceAt y.l key i is := hPl
      have hCC4 : Chg [] wr w4 := (hCC2.trans hC3).trans hC4
      have hB4 := hB3.ext hC4
      have Hn4 := Lib.hid (hSr.lt.new hSr.bl hCC4 hC1.size)
      by_cases hi : i < y.l.length
      · obtain ⟨s, o, c, rfl, hs, hx⟩ := own_at hv (by show 0 < y.l.length; omega)
        obtain ⟨_, _, e9, hc1, hc2⟩ := (Sl.own hv).form
        injection e9 with e8 e7 e9
        subst e9
        clear e8 e7
        have hsw : wr.heap.size ≤ s := Nat.le_trans (hCC2.trans hC3).size (hv.lt s rfl).1
        have hR4 : KRow Bl w4 s (o + i * 2) (prs (y.l.drop i)) := ⟨hs, hSr.lt.new hSr.bl hCC4 hsw, fun j hj => by
          rw [prs_len, List.length_drop] at hj
          rw [Nat.add_assoc, hx (i * 2 + j) (by omega), ← prs_drop, List.getElem?_drop]⟩
        clear hx hv
        have hc1 : y.l.length ≤ c := hc1
        have hdl : (y.l.drop i).length = y.l.length - i := List.length_drop
        gi_wp2
        have hKb0 : Kept Bl w4 w1.heap.size 72 (nums (pgs y.p)) := ⟨hB4, Hn4.out⟩
        gi_loopw [43] (fun x wr2 => ∃ k, k ≤ (y.l.drop i).length ∧ x = .int .i64 (k : Nat) ∧ J (pre ++ (y.l.drop i).take k) wr2 ∧ Src Bl wr2 b2 b3 ba bm bw fr rt pgs key ∧ KRow Bl wr2 s (o + i * 2) (prs (y.l.drop i)) ∧ Kept Bl wr2 w1.heap.size 72 (nums (pgs y.p))) (fun x _ => (y.l.drop i).length - (intOf x).toNat)
        case atStart => exact ⟨0, by omega, rfl, by simpa using abN hJ hJr hCC4, hSr.ext hCC4, hR4, hKb0⟩
        case round =>
          obtain ⟨k, hk, rfl, hJ2, hS2k, hRk, hKb⟩ := hrel
          clear hB4 hKb0 hR4 Hn4 hP2 hB3 a2 a3 k2 hS2
          by_cases hk2 : k < (y.l.drop i).length
          · obtain ⟨x, hx⟩ : ∃ x, (y.l.drop i)[k]? = some x := ⟨_, List.getElem?_eq_getElem hk2⟩
            have hr := hRk.rng hx
            have htk : (y.l.drop i).take (k + 1) = (y.l.drop i).take k ++ [x] := by rw [List.take_add_one, hx]; rfl
            have hpx : pre ++ (y.l.drop i).take k ++ [x] <+: fil key (flat R0) := by
              refine ⟨(y.l.drop i).drop (k + 1) ++ fil key (flat R), ?_⟩
              rw [hX, flat_cons, fil_app, hPl.fil, List.append_assoc pre, ← htk, List.append_assoc, ← List.append_assoc (List.take _ _), List.take_append_drop]
            obtain ⟨fn, tm, as_, bd, hy, hR⟩ := hY (pre ++ (y.l.drop i).take k) x (wr.alloc (.cells #[.string x.1, .string x.2] 93)) (n - 1) (abN hJ hJ2 ((Chg.refl [] wr).alloc _)) hpx
            dsimp only [encP] at hy
            rw [hdl] at hk2
            gi_wp2_with (first
              | (refine wpListIn_lift ?_; refine wpList_load_rng (by rfl) 93 (.tmp 45) rfl s (o + i * 2 + k * 2) rfl _ _ hr Tryz.underlying93 rfl (by kernel_rfl) ?_; change wpListIn _ _ _ _ _ _ _ _)
              | (refine wpListIn_lift ?_; refine wpList_load_rowg (by rfl) 93 (.tmp 13) rfl wr.heap.size rfl 93 #[.string x.1, .string x.2] (0, 0) _ (Blk.new wr 93 _) Tryz.underlying93 rfl (by kernel_rfl) ?_; change wpListIn _ _ _ _ _ _ _ _))
            refine hR.mono ?_
            rintro e w6 (⟨rfl, hJ6, hk6⟩ | ⟨rfl, hJx6, _⟩)
            · have hC5 : Chg [] wr (wr.alloc (.cells #[.string x.1, .string x.2] 93)) := (Chg.refl [] wr).alloc _
              gi_wp2
              go_roundw
              case rel => exact ⟨k + 1, by omega, by rw [wr64 _ (by have h9 := hc2; unfold maxLen at h9; omega)]; simp, by rw [htk, ← List.append_assoc]; exact hJ6, (hS2k.ext hC5).kp hk6, (hRk.ext hS2k.bl hC5).kp hk6, (hKb.ext hS2k.bl hC5).kp hk6⟩
              case measure => rw [wr64 _ (by have h9 := hc2; unfold maxLen at h9; omega)]; simp [intOf]; omega
            · gi_wp2
              refine bodyPost_ret (results_none rfl _ _ _) rfl ?_
              exact ⟨⟨_, rfl⟩, .inr ⟨_, hpx, hJx6⟩⟩
          · have hke : k = (y.l.drop i).length := by omega
            rw [hdl] at hk2 hk
            gi_wp2_with (first
          | (refine wpListIn_lift ?_; refine wpList_load_rowg (by rfl) 72 (.tmp 6) rfl w1.heap.size rfl 72 (nums (pgs y.p)) (0, 0) _ hKb.1 Tryz.underlying72 rfl (hSz ▸ (by kernel_rfl)) ?_; change wpListIn _ _ _ _ _ _ _ _)
          | (gi_at_call 132; refine (callsIn_wide.2 (next_w _ _ wr hyl)).mono ?_; rintro e w8 ⟨rfl, hC8⟩))
            go_roundw
            case rel => exact ⟨D ++ [y], R, pre ++ (y.l.drop i).take k, by rw [hD]; simp, rfl, by rw [hX, flat_cons, fil_app, hPl.fil]; rw [hke, List.take_length, List.append_assoc], abN hJ hJ2 hC8, hS2k.ext hC8⟩
            case measure =>
              have h1 := leftL_eq hM hD
              have h2 := leftL_eq hM (D := D ++ [y]) (R := R) (by rw [hD]; simp)
              refine Nat.lt_of_le_of_lt (Nat.le_of_eq h2) (Nat.lt_of_lt_of_le (Nat.lt_succ_self _) (Nat.le_of_eq h1.symm))
      · have hi2 : i = y.l.length := by have := hPl.le; omega
        obtain ⟨A9, c9, rfl, hc1, hc2⟩ := (Sl.own hv).form
        have hc1 : y.l.length ≤ c9 := hc1
        clear hv
        cases A9
        all_goals gi_wp2
        all_goals
          refine wpIn_loop_rounds 1 ?_
          rw [roundsIn_succ]
          gi_wp2_with (first
          | (refine wpListIn_lift ?_; refine wpList_load_rowg (by rfl) 72 (.tmp 6) rfl w1.heap.size rfl 72 (nums (pgs y.p)) (0, 0) _ hB4 Tryz.underlying72 rfl (hSz ▸ (by kernel_rfl)) ?_; change wpListIn _ _ _ _ _ _ _ _)
          | (gi_at_call 132; refine (callsIn_wide.2 (next_w _ _ w4 hyl)).mono ?_; rintro e w8 ⟨rfl, hC8⟩))
          go_roundw
          case rel => exact ⟨D ++ [y], R, pre, by rw [hD]; simp, rfl, by rw [hX, flat_cons, fil_app, hPl.fil]; simp [hi2], abN hJ (abN hJ hJr hCC4) hC8, (hSr.ext hCC4).ext hC8⟩
          case measure =>
            have h1 := leftL_eq hM hD
            have h2 := leftL_eq hM (D := D ++ [y]) (R := R) (by rw [hD]; simp)
            refine Nat.lt_of_le_of_lt (Nat.le_of_eq h2) (Nat.lt_of_lt_of_le (Nat.lt_succ_self _) (Nat.le_of_eq h1.symm))

end Go.Proofs.YtpcaadipejnllaaGreatDoor

/- A loop over an iterator over pairs. -/
set_option linter.unusedVariables false
set_option linter.unusedSimpArgs false
namespace Go.Proofs.YtpcaadipejnllaaGreatDoor
open Go.RowKit Go.Shelf

/-- How a round's body may be left. -/
def post9 (B Bl Z : Nat) (I : List Pr → World → Prop) (Ix : List Pr → World → Prop) (xs : List Pr) (W : World) : Exit → Act → World → Prop
  | .normal, _, W' => KeepsFrom B W W' ∧ KpS Bl Z W W' ∧ I xs W'
  | .ret, _, W' => KeepsFrom B W W' ∧ KpS Bl Z W W' ∧ Ix xs W'
  | _, _, _ => False

theorem roundAny {l l' m m' : Nat} {f : FuncId} {tmps : Array Value} {assign body : Code} {P : Program} {W : World} {R : Ending → World → Prop} (h : RoundIn Fence.wide m P l f tmps assign body W R) : RoundIn (Fence.wide.inRound l') m' P l f tmps assign body W R :=
  ⟨trivial, fun c cs _ => h.2 c cs (room_wide _)⟩

section
variable {g : Operand} {p : Tmp} {assign body : Code} {Q : Exit → Act → World → Prop} {a : Act} {w : World} {n gf Bl : Nat} {lb : Array Value} {Xs : List Pr}
theorem rangeFunc9 (hg : a.eval g = .func (.func gf) #[] lb) (eg : ∀ args w, (callFunc gf args).run Tryz.prog w = .ok (.enter gf args) w)
    (hBl : Bl < w.heap.size) (w0 : World) (hw0 : Below w0.heap.size w0 w) (hseq : Seq9 gf lb encP Bl Xs w0)
    (I Ix : List Pr → World → Prop) (hI : OwnFrom w.heap.size I) (hIx : OwnFrom w.heap.size Ix) (h0 : I [] w) (a1 : Pr → Nat → Act)
    (hassign : ∀ (l : Nat) (x : Pr) (m : Nat) (W : World) (K : Act → World → Prop), K (a1 x W.heap.size) (W.alloc (.cells #[.string x.1, .string x.2] 93)) →
      assign.wpIn (Fence.wide.inRound l) m Tryz.prog (Exit.then K (fun _ _ _ => False)) { tmps := a.tmps.setIfInBounds p (.agg #[.string x.1, .string x.2]), defers := [] } W)
    (hbody : ∀ (l : Nat) (pre : List Pr) (x : Pr) (Bx m : Nat) (W : World), I pre W → pre ++ [x] <+: Xs → w.heap.size ≤ Bx → Blk W Bx 93 #[.string x.1, .string x.2] →
      body.wpIn (Fence.wide.inRound l) m Tryz.prog (post9 w.heap.size Bl (w.heap.size + 2) I Ix (pre ++ [x]) W) (a1 x Bx) W)
    (hdone : ∀ (D : Nat) (W : World), w.heap.size ≤ D → I Xs W → W.heap[D]? = some (.deferred (some [])) → Q .normal { a with defers := { target := .collected D, args := #[] } :: a.defers } W)
    (hstop : ∀ (D : Nat) (pre : List Pr) (W : World), w.heap.size ≤ D → pre <+: Xs → Ix pre W → W.heap[D]? = some (.deferred (some [])) → Code.ret.wpIn Fence.wide n Tryz.prog Q { a with defers := { target := .collected D, args := #[] } :: a.defers } W) :
    (Code.rangeFunc g #[p] assign body).wpIn Fence.wide n Tryz.prog Q a w := by
  refine wpIn_rangeFunc (fun fn hfn => ?_)
  obtain ⟨rec, hrec⟩ : ∃ rec : LoopState → Option Code → Loop, rec = fun st pe => { state := st, pending := pe, fn, tmps := a.tmps, params := #[p], assign, body, defers := w.heap.size } := ⟨_, rfl⟩
  obtain ⟨W1, hW1⟩ : ∃ W1, (w.alloc (.deferred (some []))).alloc (.loop (rec .ready none)) = W1 := ⟨_, rfl⟩
  have hsz : W1.heap.size = w.heap.size + 2 := by rw [← hW1]; simp
  have hL1 : W1.heap[w.heap.size + 1]? = some (.loop (rec .ready none)) := by
    have := World.alloc_heap_new (w.alloc (.deferred (some []))) (.loop (rec .ready none))
    rw [World.size_alloc, hW1] at this; exact this
  have hK1 : W1.heap[w.heap.size]? = some (.deferred (some [])) := by
    rw [← hW1]; exact (Below.heap_alloc _ _ _ (by simp)).trans (World.alloc_heap_new w _)
  have hI1 : I [] W1 := by rw [← hW1]; exact hI.alloc _ (hI.alloc _ h0)
  have hb1 : Below w0.heap.size w0 W1 := by
    rw [← hW1]; exact hw0.trans ((((Below.refl _ w).alloc (Nat.le_refl _) _).alloc (by simp) _).mono hw0.size)
  refine ⟨w.heap.size + 1, [{ target := .collected w.heap.size, args := #[] }], W1, { target := .fn (.func gf) lb, args := #[.func (.yield (w.heap.size + 1)) #[] #[]] }, W1, gf,
    #[.func (.yield (w.heap.size + 1)) #[] #[]] ++ lb, W1, ?_, ?_, fun _ _ => trivial, ?_, fun h => (by cases h), ?_⟩
  · rw [← hW1, hrec]; exact run_enterLoop_outer _ _ _ _ _
  · simp only [resolve, hg]
    simp [go_sem]
  · simp [invoke, go_sem, eg]
  -- the invariant with the two blocks of the loop
  have far : ∀ {A B : World} {row : Option Nat} {k : Nat} {o : Obj}, A.grownBy B row → (∀ r, row = some r → W1.heap.size ≤ r ∧ ∃ o : Obj, A.heap[r]? = some o ∧ o.isCells = false) → k < w.heap.size + 2 → A.heap[k]? = some o → B.heap[k]? = some o :=
    fun hg hr hk ho => (hg.block _ (Array.getElem?_eq_some_iff.1 ho).1 (fun e => by have := (hr _ e.symm).1; omega)).trans ho
  refine (hseq (n - 1) (w.heap.size + 1)
    (fun pre W => I pre W ∧ W.heap[w.heap.size + 1]? = some (.loop (rec .ready none)) ∧ W.heap[w.heap.size]? = some (.deferred (some [])))
    (fun pre W => Ix pre W ∧ W.heap[w.heap.size + 1]? = some (.loop (rec .done (some .ret))) ∧ W.heap[w.heap.size]? = some (.deferred (some [])))
    W1 hb1
    (fun s A B row hs hg' hr => ⟨hI s A B row hs.1 hg' (fun r e => ⟨by have := (hr r e).1; omega, (hr r e).2⟩), far hg' hr (by omega) hs.2.1, far hg' hr (by omega) hs.2.2⟩)
    (fun s A B row hs hg' hr => ⟨hIx s A B row hs.1 hg' (fun r e => ⟨by have := (hr r e).1; omega, (hr r e).2⟩), far hg' hr (by omega) hs.2.1, far hg' hr (by omega) hs.2.2⟩)
    ?_ ⟨hI1, hL1, hK1⟩).mono ?_
  · rintro pre x W m ⟨hi, hl, hk⟩ hpx
    have hlt : w.heap.size + 1 < W.heap.size := (Array.getElem?_eq_some_iff.1 hl).1
    have hy := run_yield (P := Tryz.prog) (args := encP x) hl (by rw [hrec]; rfl)
    rw [hrec] at hy
    have e1 : ((#[p] : Array Tmp).zip (encP x)).foldl (fun tmps (t, a) => tmps.setIfInBounds t a) a.tmps = a.tmps.setIfInBounds p (.agg #[.string x.1, .string x.2]) := by simp [encP]
    replace hy := hy.trans (congrArg (fun t => Result.ok (Next.round (w.heap.size + 1) fn t assign body) W) e1)
    refine ⟨fn, _, assign, body, hy, roundIn_of_wpIn hfn (hassign _ x _ W _ ?_)⟩
    clear hy
    have hl' := (Below.heap_alloc W (.cells #[.string x.1, .string x.2] 93) _ hlt).trans hl
    have hk' := (Below.heap_alloc W (.cells #[.string x.1, .string x.2] 93) w.heap.size (by omega)).trans hk
    have hi' := hI.alloc (.cells #[.string x.1, .string x.2] 93) hi
    have hb' := Blk.new W 93 #[.string x.1, .string x.2]
    have hc' : Chg [] W (W.alloc (.cells #[.string x.1, .string x.2] 93)) := (Chg.refl [] W).alloc _
    have hs' : (W.alloc (.cells #[.string x.1, .string x.2] 93)).heap.size = W.heap.size + 1 := by simp
    generalize (W.alloc (.cells #[.string x.1, .string x.2] 93)) = V at hl' hk' hi' hb' hc' hs' ⊢
    refine ⟨_, run_beginRound hl' (by rw [hrec]), ?_⟩
    have hl2 : (V.putObj (w.heap.size + 1) (.loop { rec .ready none with state := .busy })).heap[w.heap.size + 1]? = some (.loop { rec .ready none with state := .busy }) := World.putObj_heap_same (by omega)
    have hk2 : (V.putObj (w.heap.size + 1) (.loop { rec .ready none with state := .busy })).heap[w.heap.size]? = some (.deferred (some [])) := (World.putObj_heap_other (by omega)).trans hk'
    have hb2 : Blk (V.putObj (w.heap.size + 1) (.loop { rec .ready none with state := .busy })) W.heap.size 93 #[.string x.1, .string x.2] := (World.putObj_heap_other (by omega)).trans hb'
    have hw2 : KpS Bl (w.heap.size + 2) W (V.putObj (w.heap.size + 1) (.loop { rec .ready none with state := .busy })) := (KpS.of_chg (by omega) hc').trans (KpS.putObj _ _ _ (by omega) (by omega) hl' rfl)
    refine wpIn_mono (hbody _ pre x W.heap.size _ _ (hI.putObj _ hi' (by omega) hl' rfl) hpx (by omega) hb2) ?_
    generalize (V.putObj (w.heap.size + 1) (.loop { rec .ready none with state := .busy })) = V2 at hl2 hk2 hb2 hw2 ⊢
    have fin : ∀ (jump : Option Code) (W3 : World), KeepsFrom w.heap.size V2 W3 →
        (Instr.endRound (w.heap.size + 1) jump).run Tryz.prog W3 = .ok (.bool jump.isNone) (W3.putObj (w.heap.size + 1) (.loop (rec (if jump.isNone then .ready else .done) jump))) ∧
        W3.heap[w.heap.size + 1]? = some (.loop { rec .ready none with state := .busy }) ∧
        (W3.putObj (w.heap.size + 1) (.loop (rec (if jump.isNone then .ready else .done) jump))).heap[w.heap.size + 1]? = some (.loop (rec (if jump.isNone then .ready else .done) jump)) ∧
        (W3.putObj (w.heap.size + 1) (.loop (rec (if jump.isNone then .ready else .done) jump))).heap[w.heap.size]? = some (.deferred (some [])) := fun jump W3 hk3 => by
      have hl3 := hk3.same _ _ (by omega) hl2 rfl
      have := run_endRound (P := Tryz.prog) jump hl3
      rw [hrec] at this ⊢
      exact ⟨this, by rw [hrec] at hl3; exact hl3, World.putObj_heap_same (Array.getElem?_eq_some_iff.1 hl3).1, (World.putObj_heap_other (by omega)).trans (hk3.same _ _ (Nat.le_refl _) hk2 rfl)⟩
    rintro e a3 W3 hp
    cases e with
    | normal =>
      obtain ⟨hk3, hkp3, hi3⟩ := hp
      obtain ⟨hr, hl3, hl4, hk4⟩ := fin none W3 hk3
      refine ⟨_, _, hr, .inl ⟨rfl, ⟨hI.putObj _ hi3 (by omega) hl3 rfl, hl4, hk4⟩, ?_⟩⟩
      rw [hsz]
      exact (hw2.trans hkp3).trans (KpS.putObj _ _ _ (by omega) (by omega) hl3 rfl)
    | ret =>
      obtain ⟨hk3, hkp3, hi3⟩ := hp
      obtain ⟨hr, hl3, hl4, hk4⟩ := fin (some .ret) W3 hk3
      refine ⟨_, _, hr, .inr ⟨rfl, ⟨hIx.putObj _ hi3 (by omega) hl3 rfl, hl4, hk4⟩, ?_⟩⟩
      rw [hsz]
      exact (hw2.trans hkp3).trans (KpS.putObj _ _ _ (by omega) (by omega) hl3 rfl)
    | exit id => exact hp.elim
    | goto t => exact hp.elim
    | panic ch => exact hp.elim
    | outgrown => exact hp.elim
  · rintro e W2 ⟨⟨v, rfl⟩, (⟨hi, hl, hk⟩ | ⟨pre, hSp, hi, hl, hk⟩)⟩
    · exact ⟨none, _, by have := run_endLoop (P := Tryz.prog) hl (by rw [hrec]; simp); rw [hrec] at this; exact this, hdone _ _ (Nat.le_refl _) (hI.putObj _ hi (by omega) hl rfl) ((World.putObj_heap_other (by omega)).trans hk)⟩
    · exact ⟨some .ret, _, by have := run_endLoop (P := Tryz.prog) hl (by rw [hrec]; simp); rw [hrec] at this; exact this, hstop _ pre _ (Nat.le_refl _) hSp (hIx.putObj _ hi (by omega) hl rfl) ((World.putObj_heap_other (by omega)).trans hk)⟩
end

end Go.Proofs.YtpcaadipejnllaaGreatDoor

/- The pairs of a map in a span. -/
set_option linter.unusedVariables false
set_option linter.unusedSimpArgs false
namespace Go.Proofs.YtpcaadipejnllaaGreatDoor
open Go.RowKit

theorem less_cb : ∀ a b : List UInt8, Op.bytesLess a b = decide (Lib.compareBytes a b < 0)
  | [], [] => rfl
  | [], _ :: _ => rfl
  | _ :: _, [] => rfl
  | a :: xs, b :: ys => by
    rw [cb_cons]
    unfold Op.bytesLess
    by_cases h1 : a < b
    · rw [if_pos h1]; simp [h1]
    · rw [if_neg h1]
      by_cases h2 : b < a
      · rw [if_pos h2]
        have : ¬ a = b := fun e => by rw [u8_lt] at h2; rw [e] at h2; omega
        simp [h1, this]
      · have e : a = b := UInt8.toNat_inj.1 (by rw [u8_lt] at h1 h2; omega)
        rw [if_neg h2, less_cb xs ys]
        simp [h1, e]
theorem less_cmp (a b : ByteArray) : Op.bytesLess a.toList b.toList = decide (cmpS a b < 0) := by
  rw [less_cb, ByteArray.toList_eq, ByteArray.toList_eq]; rfl
theorem one_ne (b : Nat) : (one b).toList.isEmpty = false := by rw [ByteArray.toList_eq]; rfl

theorem wpList_append_pr {w : World} {ops : Array Oper} {rest : List Oper} {o : Oper} {a : Act} {Q : Exit → Act → World → Prop} (hgd : o.guard = none) (s x : Operand)
    (ho : o.op = .call { callee := .builtin .append, args := #[s, x], argTypes := #[94, 94] })
    (base : Nat) (v : Value) (l : List Pr) (hs : a.eval s = v) (hown : w.ownsRow base 93 2 v l.length (prs l)) (b : Nat) (y : Pr) (hx : a.eval x = .slice (some ⟨b, 0, none⟩) 1 1) (hb : Blk w b 93 #[.string y.1, .string y.2]) (hl : l.length ≤ 2000) (hbase : base ≤ w.heap.size)
    (h : ∀ v' w', w'.ownsRow base 93 2 v' (l ++ [y]).length (prs (l ++ [y])) → Chg v.ownBlock.toList w w' → wpList Tryz.prog ops Q rest (a.put o.dst v') w') : wpList Tryz.prog ops Q (o :: rest) a w := by
  obtain ⟨i0, hi, hz0, hz1, hz2⟩ := info_parts info93
  refine wpList_append_own w hgd s x 94 ho base 93 i0 _ 2 32 Tryz.underlying94 hi hz0 hz1 hz2 rfl (by decide) v l.length (prs l) hs hown ⟨b, 0, none⟩ 1 1 [.string y.1, .string y.2] hx rfl (fun j u hj => ?_) (by simp [Value.oneCell']) (by unfold maxLen; omega) (by omega) hbase (fun v' w' h3 h4 _ => h v' w' (by rw [List.length_append, prs_app]; exact h3) (Chg.of_grown h4))
  rw [add_mk, Nat.zero_add, hb.cell, ← Array.getElem?_toList]
  exact hj
theorem prs_rng {w : World} {l : List Pr} {s o : Nat} (hx : ∀ j, j < l.length * 2 → w.cell? ⟨s, o + j, none⟩ = (prs l)[j]?) {k : Nat} {x : Pr} (hk : l[k]? = some x) : w.rangeAt s (o + k * 2) [Value.string x.1, .string x.2] := by
  intro j u hj
  have hkl := (List.getElem?_eq_some_iff.1 hk).1
  have hjl : j < 2 := by have := (List.getElem?_eq_some_iff.1 hj).1; simpa using this
  obtain ⟨g1, g2⟩ := prs_get l k x hk
  rw [Nat.add_assoc, hx _ (by omega)]
  match j, hj with
  | 0, hj => rw [Nat.add_zero, g1]; exact hj
  | 1, hj => rw [g2]; exact hj

set_option maxRecDepth 100000 in
set_option maxHeartbeats 1000000 in
theorem within_b (mb base b : Nat) (v : Value) (L : List Pr) (w : World) (hm : ModV w mb base v L) :
    Calls Tryz.prog 48 #[.pointer (some ⟨mb, 0, none⟩), .string (one b), .string (one (b + 1))] w fun e w' => ∃ v', e = .returned v' ∧ w'.ownsRow w.heap.size 93 2 v' (sel b L).length (prs (sel b L)) ∧ Chg [] w w' := by
  have hn := hm.n
  have hsel := fun x => (show selq b x = (decide (0 ≤ cmpS x.1 (one b)) && decide (cmpS x.1 (one (b + 1)) < 0)) from rfl)
  have hne := one_ne (b + 1)
  have hlf := less_cmp
  obtain ⟨F, hF⟩ : ∃ F, F = one b := ⟨_, rfl⟩
  obtain ⟨G, hG⟩ : ∃ G, G = one (b + 1) := ⟨_, rfl⟩
  rw [← hG] at hne
  simp only [← hF, ← hG] at hsel ⊢
  have Hsel := Lib.hid hsel
  have Hlf := Lib.hid hlf
  clear hF hG hsel hlf
  go_enter Tryz.func48, Tryz.ntmps48
  go_wp2_with (first
    | (go_at_call 91; refine (mpairs_w mb base v L _ hm).mono ?_; rintro e w1 ⟨vc, rfl, hoc, hC1⟩; obtain ⟨A, c, rfl, hc1, hc2⟩ := (Sl.own hoc).form))
  go_loopw [7, 13] (fun v i wr => ∃ (k : Nat) (vo : Value), vo = v ∧ k ≤ L.length ∧ i = .int .i64 k ∧ wr.ownsRow w1.heap.size 93 2 vo (sel b (L.take k)).length (prs (sel b (L.take k))) ∧ Chg [] w1 wr) (fun _ i _ => L.length - (intOf i).toNat)
  case atStart => exact ⟨0, _, rfl, Nat.zero_le _, rfl, World.ownsRow_nil _ _ _ _, Chg.refl _ _⟩
  case round =>
    obtain ⟨k, vo, rfl, hk, rfl, ho, hC⟩ := hrel
    have hll : (sel b (L.take k)).length ≤ 2000 := by have := List.length_filter_le (selq b) (L.take k); have h2 : (L.take k).length ≤ k := List.length_take_le _ _; show (List.filter (selq b) (L.take k)).length ≤ 2000; omega
    by_cases hlt : k < L.length
    · obtain ⟨x, hx⟩ : ∃ x, L[k]? = some x := ⟨_, List.getElem?_eq_getElem hlt⟩
      obtain ⟨s, o, c', e, hs, hxc⟩ := own_at hoc (by omega)
      injection e with e1 e2 e3
      subst e1 e3
      have hr := prs_rng (fun j hj => by rw [hC.cell hs (by simp)]; exact hxc j hj) hx
      have hts : L.take (k + 1) = L.take k ++ [x] := take_one L k x hx
      have hbl : w1.heap.size ≤ wr.heap.size := hC.size
      have Hx := Lib.hid hx
      have Hxc := Lib.hid hxc
      have Hts := Lib.hid hts
      clear hx hxc hts
      by_cases hq : selq b x = true
      · have h1 : Op.bytesLess x.1.toList F.toList = false := by rw [Hlf.out]; rw [Hsel.out, Bool.and_eq_true, decide_eq_true_eq, decide_eq_true_eq] at hq; exact decide_eq_false (by omega)
        have h2 : Op.bytesLess x.1.toList G.toList = true := by rw [Hlf.out]; rw [Hsel.out, Bool.and_eq_true, decide_eq_true_eq, decide_eq_true_eq] at hq; exact decide_eq_true (by omega)
        have Hq := Lib.hid hq
        clear hq
        go_wp2_with (first
          | (refine wpList_load_rng (by rfl) 93 (.tmp 15) rfl s (o + k * 2) rfl _ _ hr Tryz.underlying93 rfl (by kernel_rfl) ?_)
          | (at_builtin; go_loud (refine wpList_append_pr rfl _ _ rfl w1.heap.size vo (sel b (L.take k)) rfl ((ho.alloc _).alloc _) _ x rfl (Blk.newEq (by simp)) hll (by simp; omega) ?_); intro v3 w3 ho3 hC3))
        go_roundw
        case rel =>
          refine ⟨k + 1, v3, rfl, by omega, by go_num, ?_, (((hC.alloc _).alloc _)).on hC3 (fun i hi => .inr (ho.lt i (by simpa using hi)).1)⟩
          have e : sel b (L.take (k + 1)) = sel b (L.take k) ++ [x] := by rw [Hts.out]; unfold sel; rw [List.filter_append]; simp [Hq.out]
          rw [e]; exact ho3
        case measure => simp [intOf]; omega
      · have hq : selq b x = false := by simpa using hq
        have hstep : wr.ownsRow w1.heap.size 93 2 vo (sel b (L.take (k + 1))).length (prs (sel b (L.take (k + 1)))) := by
          have e : sel b (L.take (k + 1)) = sel b (L.take k) := by rw [Hts.out]; unfold sel; rw [List.filter_append]; simp [hq]
          rw [e]; exact ho
        by_cases h1 : Op.bytesLess x.1.toList F.toList = true
        · clear hq
          go_wp2_with (first
            | (refine wpList_load_rng (by rfl) 93 (.tmp 15) rfl s (o + k * 2) rfl _ _ hr Tryz.underlying93 rfl (by kernel_rfl) ?_))
          go_roundw
          case rel => exact ⟨k + 1, vo, rfl, by omega, by go_num, hstep.alloc _, hC.alloc _⟩
          case measure => simp [intOf]; omega
        · have h1 : Op.bytesLess x.1.toList F.toList = false := by simpa using h1
          have h2 : Op.bytesLess x.1.toList G.toList = false := by
            rw [Hlf.out] at h1 ⊢
            rw [Hsel.out] at hq
            have a1 := of_decide_eq_false h1
            rw [decide_eq_true (by omega), Bool.true_and] at hq
            exact hq
          clear hq
          go_wp2_with (first
            | (refine wpList_load_rng (by rfl) 93 (.tmp 15) rfl s (o + k * 2) rfl _ _ hr Tryz.underlying93 rfl (by kernel_rfl) ?_))
          go_roundw
          case rel => exact ⟨k + 1, vo, rfl, by omega, by go_num, hstep.alloc _, hC.alloc _⟩
          case measure => simp [intOf]; omega
    · obtain rfl : k = L.length := by omega
      rw [List.take_of_length_le (Nat.le_refl _)] at ho
      clear hll
      go_wp2
      go_ret
      exact ⟨vo, rfl, own_base (b' := w.heap.size) ho hC1.size, hC1.trans hC⟩

end Go.Proofs.YtpcaadipejnllaaGreatDoor

/- The iterator over the pairs of a part. -/
set_option linter.unusedVariables false
set_option linter.unusedSimpArgs false
namespace Go.Proofs.YtpcaadipejnllaaGreatDoor
open Go.RowKit Go.Shelf
attribute [local go_sem] Oper.semAt_some wide_fn wide_depth

def lo (high : ByteArray) (x : Pr) : Bool := decide (cmpS x.1 high < 0)
def til (high : ByteArray) (l : List Pr) : List Pr := l.takeWhile (lo high)
theorem til_all {high : ByteArray} {l : List Pr} (h : ∀ y ∈ l, lo high y = true) : til high l = l := by
  induction l with
  | nil => rfl
  | cons y l ih => rw [til, List.takeWhile_cons_of_pos (h y (by simp)), ← til, ih (fun z hz => h z (by simp [hz]))]
theorem til_pre {high : ByteArray} {l pre : List Pr} (hp : pre <+: l) (h : ∀ y ∈ pre, lo high y = true) : pre <+: til high l := by
  obtain ⟨r, rfl⟩ := hp
  induction pre with
  | nil => exact List.nil_prefix
  | cons y pre ih =>
    rw [List.cons_append, til, List.takeWhile_cons_of_pos (h y (by simp)), ← til]
    obtain ⟨s, hs⟩ := ih (fun z hz => h z (by simp [hz]))
    exact ⟨s, by rw [List.cons_append, hs]⟩
theorem til_stop {high : ByteArray} {l q : List Pr} {x : Pr} (hp : q ++ [x] <+: l) (h : ∀ y ∈ q, lo high y = true) (hx : lo high x = false) : til high l = q := by
  obtain ⟨r, rfl⟩ := hp
  induction q with
  | nil => rw [List.nil_append, List.singleton_append, til, List.takeWhile_cons_of_neg (by simp [hx])]
  | cons y q ih => rw [List.cons_append, List.cons_append, til, List.takeWhile_cons_of_pos (h y (by simp)), ← til, ih (fun z hz => h z (by simp [hz]))]

section
variable {Bl : Nat} {A B : World} {row : Option Nat}
theorem Ow.backg (hg : A.grownBy B row) (hl : Bl < A.heap.size) (hr : ∀ r, row = some r → Bl ≠ r) {k : Nat} (h : Ow Bl B k) : Ow Bl A k := by
  rcases h with h | ⟨v, hv, ho⟩
  · exact .inl h
  · exact .inr ⟨v, (hg.block Bl hl (fun e => hr Bl e.symm rfl)).symm.trans hv, ho⟩
theorem Kept.grown {g : Nat} {t : TypeId} {cs : Array Value} (h : Kept Bl A g t cs) (hg : A.grownBy B row) (hl : Bl < A.heap.size) (hr : ∀ r, row = some r → Bl ≠ r ∧ ∃ o : Obj, A.heap[r]? = some o ∧ o.isCells = false) : Kept Bl B g t cs :=
  ⟨h.1.grown hg (fun e => by
    obtain ⟨_, o, ho, hc⟩ := hr g e.symm
    have h1 : A.heap[g]? = some _ := h.1
    rw [h1] at ho; cases ho; cases hc), fun ho => h.2 (ho.backg hg hl (fun r e => (hr r e).1))⟩
theorem OwLt.grown (h : OwLt Bl A) (hg : A.grownBy B row) (hl : Bl < A.heap.size) (hr : ∀ r, row = some r → Bl ≠ r) : OwLt Bl B := fun k hk => Nat.lt_of_lt_of_le (h k (hk.backg hg hl hr)) hg.size
end

/-- What part's closure reads. -/
def Prt (Bl B5 Y l : Nat) (high : ByteArray) (V : World) : Prop := Kept Bl V B5 9 #[.string high] ∧ Kept Bl V Y 211 #[.func (.yield l) #[] #[]] ∧ OwLt Bl V ∧ Bl < V.heap.size
theorem Prt.kp {Bl B5 Y l Z : Nat} {high : ByteArray} {V V' : World} (h : Prt Bl B5 Y l high V) (k : KpS Bl Z V V') : Prt Bl B5 Y l high V' := ⟨h.1.kp k, h.2.1.kp k, k.lt h.2.2.1, Nat.lt_of_lt_of_le h.2.2.2 k.size⟩
theorem Prt.grown {Bl B5 Y l : Nat} {high : ByteArray} {A B : World} {row : Option Nat} (h : Prt Bl B5 Y l high A) (hg : A.grownBy B row) (hr : ∀ r, row = some r → Bl ≠ r ∧ ∃ o : Obj, A.heap[r]? = some o ∧ o.isCells = false) : Prt Bl B5 Y l high B :=
  ⟨h.1.grown hg h.2.2.2 hr, h.2.1.grown hg h.2.2.2 hr, h.2.2.1.grown hg h.2.2.2 (fun r e => (hr r e).1), Nat.lt_of_lt_of_le h.2.2.2 hg.size⟩

set_option maxRecDepth 100000 in
set_option maxHeartbeats 4000000 in
theorem part_seq (Bl b1 b2 b3 b5 b10 : Nat) (high : ByteArray) (hne : high.toList.isEmpty = false) (Xs : List Pr) (w0 : World) (hseq : Seq9 160 #[.pointer (some ⟨b1, 0, none⟩), .pointer (some ⟨b2, 0, none⟩), .pointer (some ⟨b3, 0, none⟩)] encP Bl Xs w0)
    (hb5 : Kept Bl w0 b5 9 #[.string high]) (hb10 : Kept Bl w0 b10 158 #[.func (.func 160) #[] #[.pointer (some ⟨b1, 0, none⟩), .pointer (some ⟨b2, 0, none⟩), .pointer (some ⟨b3, 0, none⟩)]]) (hlt : OwLt Bl w0) (hbl : Bl < w0.heap.size) :
    Seq9 125 #[.pointer (some ⟨b10, 0, none⟩), .pointer (some ⟨b5, 0, none⟩)] encP Bl (til high Xs) w0 := fun n l J Jx W hW hJ hJx hY h0 => by
  have hCW : Chg [] w0 W := .of_below hW
  have c10 : (W.alloc (.cells #[.func (.yield l) #[] #[]] 211)).cell? ⟨b10, 0, none⟩ = some (.func (.func 160) #[] #[.pointer (some ⟨b1, 0, none⟩), .pointer (some ⟨b2, 0, none⟩), .pointer (some ⟨b3, 0, none⟩)]) := ((hb10.1.ext hCW).alloc _).cell 0
  refine callsIn_of_wp_marks Tryz.func125 rfl trivial ?_ rfl
  simp only [Tryz.ntmps125, List.size_toArray, List.length_cons, List.length_nil, Nat.reduceAdd, Nat.reduceSub, Array.replicate_succ, Array.replicate_zero, List.push_toArray, List.append_toArray, List.nil_append, List.cons_append]
  gi_wp2
  have hC1 : Chg [] W (W.alloc (.cells #[.func (.yield l) #[] #[]] 211)) := (Chg.refl [] W).alloc _
  have hB1 := Blk.new W 211 #[.func (.yield l) #[] #[]]
  have hs1 : (W.alloc (.cells #[.func (.yield l) #[] #[]] 211)).heap.size = W.heap.size + 1 := by simp
  have hJ1 := abN hJ h0 hC1
  obtain ⟨W1, hW1⟩ : ∃ W1, W.alloc (.cells #[.func (.yield l) #[] #[]] 211) = W1 := ⟨_, rfl⟩
  rw [hW1] at hC1 hB1 hs1 hJ1 ⊢
  clear hW1
  have hCW1 := hCW.trans hC1
  have hP1 : Prt Bl b5 W.heap.size l high W1 := ⟨hb5.ext hbl hCW1, ⟨hB1, hlt.new hbl hCW1 hCW.size⟩, (KpS.of_chg (Z := 0) hbl hCW1).lt hlt, Nat.lt_of_lt_of_le hbl hCW1.size⟩
  have hbW : Bl < W.heap.size := Nat.lt_of_lt_of_le hbl hCW.size
  refine rangeFunc9 (gf := 160) (lb := #[.pointer (some ⟨b1, 0, none⟩), .pointer (some ⟨b2, 0, none⟩), .pointer (some ⟨b3, 0, none⟩)]) rfl (enters_of Tryz.func160 (by kernel_rfl) rfl) (by omega) w0 hCW1.below hseq
    (fun pre V => J pre V ∧ (∀ y ∈ pre, lo high y = true) ∧ Prt Bl b5 W.heap.size l high V)
    (fun pre V => (∃ q x, pre = q ++ [x] ∧ J q V ∧ (∀ y ∈ q, lo high y = true) ∧ lo high x = false) ∨ (Jx pre V ∧ ∀ y ∈ pre, lo high y = true))
    (fun s A B row hs hg hr => ⟨hJ s A B row hs.1 hg (fun r e => ⟨by have := (hr r e).1; omega, (hr r e).2⟩), hs.2.1, hs.2.2.grown hg (fun r e => ⟨by have := (hr r e).1; omega, (hr r e).2⟩)⟩)
    (fun s A B row hs hg hr => by
      rcases hs with ⟨q, x, e1, e2, e3, e4⟩ | ⟨e1, e2⟩
      · exact .inl ⟨q, x, e1, hJ q A B row e2 hg (fun r e => ⟨by have := (hr r e).1; omega, (hr r e).2⟩), e3, e4⟩
      · exact .inr ⟨hJx s A B row e1 hg (fun r e => ⟨by have := (hr r e).1; omega, (hr r e).2⟩), e2⟩)
    ⟨hJ1, by simp, hP1⟩
    (fun x Bx => { tmps := #[.func (.yield l) #[] #[], .pointer (some ⟨b10, 0, none⟩), .pointer (some ⟨b5, 0, none⟩), .pointer (some ⟨W.heap.size, 0, none⟩), .pointer (some ⟨Bx, 0, none⟩), .func (.func 160) #[] #[.pointer (some ⟨b1, 0, none⟩), .pointer (some ⟨b2, 0, none⟩), .pointer (some ⟨b3, 0, none⟩)], .agg #[.string x.1, .string x.2], undef, undef, undef, undef, undef, undef, undef, undef, undef, undef, undef, undef, undef, undef], defers := [] })
    ?assign ?body ?done ?stop
  case assign =>
    intro l2 x m V K hK
    gi_wp2
    exact hK
  case body =>
    rintro l2 pre x Bx m V ⟨hJv, hlo, hPv⟩ hpx hBx hbx
    have d5 : V.cell? ⟨b5, 0, none⟩ = some (.string high) := hPv.1.1.cell 0
    have dy : V.cell? ⟨W.heap.size, 0, none⟩ = some (.func (.yield l) #[] #[]) := hPv.2.1.1.cell 0
    have dx0 : V.cell? ⟨Bx, 0, none⟩ = some (.string x.1) := hbx.cell 0
    have dx1 : V.cell? ⟨Bx, 1, none⟩ = some (.string x.2) := hbx.cell 1
    have hle : W.heap.size ≤ W1.heap.size := by omega
    by_cases hx : lo high x = true
    · have hx2 : Op.bytesLess x.1.toList high.toList = true := by rw [less_cmp]; exact hx
      have hlo2 : ∀ y ∈ pre ++ [x], lo high y = true := fun y hy => by
        rcases List.mem_append.1 hy with hy | hy
        · exact hlo y hy
        · simp at hy; rw [hy]; exact hx
      obtain ⟨fn, tm, as_, bd, hy, hR⟩ := hY pre x V 0 hJv (til_pre hpx hlo2)
      have hR' := roundAny (l' := l2) (m' := m - 1) hR
      clear hR
      dsimp only [encP] at hy
      gi_wp2
      refine hR'.mono ?_
      rintro e V6 (⟨rfl, hJ6, hk6⟩ | ⟨rfl, hx6, hk6⟩)
      · gi_wp2
        exact ⟨hk6.from hle, hk6.mono (by omega), hJ6, hlo2, hPv.kp hk6⟩
      · gi_wp2
        exact ⟨hk6.from hle, hk6.mono (by omega), .inr ⟨hx6, hlo2⟩⟩
    · have hx : lo high x = false := by simpa using hx
      have hx2 : Op.bytesLess x.1.toList high.toList = false := by rw [less_cmp]; exact hx
      gi_wp2
      exact ⟨KeepsFrom.refl _ _, KpS.of_chg hPv.2.2.2 (Chg.refl _ _), .inl ⟨pre, x, rfl, hJv, hlo, hx⟩⟩
  case done =>
    rintro D V hD ⟨hJv, hlo, hPv⟩ hK
    gi_wp2
    refine ⟨by simp, .inl ⟨_, _, rfl, run_takeDeferred hK, ?_⟩⟩
    refine ⟨_, results_none rfl _ _ _, ⟨_, rfl⟩, .inl ?_⟩
    rw [til_all hlo]
    exact hJ.putObj _ hJv (by omega) hK rfl
  case stop =>
    rintro D pre V hD hpx hIx hK
    gi_wp2
    refine ⟨by simp, .inl ⟨_, _, rfl, run_takeDeferred hK, ?_⟩⟩
    refine ⟨_, results_none rfl _ _ _, ⟨_, rfl⟩, ?_⟩
    rcases hIx with ⟨q, x, rfl, hJq, hlo, hx⟩ | ⟨hJx1, hlo⟩
    · rw [til_stop hpx hlo hx]
      exact .inl (hJ.putObj _ hJq (by omega) hK rfl)
    · exact .inr ⟨pre, til_pre hpx hlo, hJx.putObj _ hJx1 (by omega) hK rfl⟩

end Go.Proofs.YtpcaadipejnllaaGreatDoor
