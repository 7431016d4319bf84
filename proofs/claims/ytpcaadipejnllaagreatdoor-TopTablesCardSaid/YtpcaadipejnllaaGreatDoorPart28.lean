/- For every list of people TopTables returns true, and the list reads afterwards as it read before (Rows.TopTablesCardSaid, a tied card). Conditions: none of ours; the row's own: the two listed variables of unicode/utf8 hold what the program's text lays, which the card ties to that text. -/
import Derived.Test.YtpcaadipejnllaaGreatDoorPart27
import Derived.Test.YtpcaadipejnllaaGreatDoorTie
import Derived.Test.YtpcaadipejnllaaGreatDoorCards
import Derived.ProofKit
import Derived.Lay
import Derived.LaidOnce
import Derived.SevenTiedAt
import Derived.OpenShut
import Derived.Deep.Slices
import Derived.Deep.Fields
import Derived.ChangeSame
import Derived.Carry
import Derived.Shelf.Vars

set_option linter.unusedVariables false
set_option linter.unusedSimpArgs false
namespace Go.Proofs.YtpcaadipejnllaaGreatDoor
open Go.RowKit

theorem PerS.ext {w w' : World} {v : Value} {ps : List Per} (h : PerS w v ps) (hC : Chg [] w w') : PerS w' v ps := by
  obtain ⟨A, c, e, hL⟩ := h
  refine ⟨A, c, e, fun k p hp => ?_⟩
  obtain ⟨s, o, e2, hs, hr⟩ := hL k p hp
  exact ⟨s, o, e2, Nat.lt_of_lt_of_le hs hC.size, fun j u hj => by rw [hC.cell hs (by simp)]; exact hr j u hj⟩
def exL : List Per := [⟨7, ⟨#[97, 108]⟩, -3⟩, ⟨300, ⟨#[98, 111]⟩, 5⟩, ⟨7, ⟨#[99, 121]⟩, 5⟩]
def exA : Array Value := #[.int .u16 7, .string ⟨#[97, 108]⟩, .int .i16 (-3), .int .u16 300, .string ⟨#[98, 111]⟩, .int .i16 5, .int .u16 7, .string ⟨#[99, 121]⟩, .int .i16 5]
theorem exL_ok : ∀ p ∈ exL, p.Ok := by
  intro p hp
  simp only [exL, List.mem_cons, List.not_mem_nil, or_false] at hp
  rcases hp with rfl | rfl | rfl <;> exact ⟨by decide, by decide, by decide⟩
theorem exL_at {w : World} {b : Nat} (h : Blk w b 26 exA) : PerS w (.slice (some ⟨b, 0, none⟩) 3 3) exL := by
  refine ⟨some ⟨b, 0, none⟩, 3, rfl, fun k p hp => ⟨b, 0, rfl, h.lt, fun j u hj => ?_⟩⟩
  rw [h.cell]
  match k, hp with
  | 0, hp => cases hp; match j, hj with
    | 0, hj => exact hj
    | 1, hj => exact hj
    | 2, hj => exact hj
  | 1, hp => cases hp; match j, hj with
    | 0, hj => exact hj
    | 1, hj => exact hj
    | 2, hj => exact hj
  | 2, hp => cases hp; match j, hj with
    | 0, hj => exact hj
    | 1, hj => exact hj
    | 2, hj => exact hj

set_option maxRecDepth 100000 in
set_option maxHeartbeats 4000000 in
theorem toptables_w (ps : List Per) (hok : ∀ p ∈ ps, p.id < 65536 ∧ -32768 ≤ p.sc ∧ p.sc ≤ 32767) (v : Value) (w : World) (hG : Gv w) (hL : PerS w v ps) :
    Calls Tryz.prog 3 #[v] w fun e w' => e = .returned (.bool true) ∧ Chg [] w w' := by
  obtain ⟨b, hb⟩ : ∃ b, b = w.heap.size := ⟨_, rfl⟩
  obtain ⟨w1, hw1⟩ : ∃ w1, w.alloc (.cells exA 26) = w1 := ⟨_, rfl⟩
  have hC1 : Chg [] w w1 := by rw [← hw1]; exact (Chg.refl [] w).alloc _
  have hB1 : Blk w1 b 26 exA := by rw [← hw1, hb]; exact Blk.new _ _ _
  unfold exA at hw1
  have hEx : ∀ W, Chg [] w1 W → Calls Tryz.prog 4 #[.slice (some ⟨b, 0, none⟩) 3 3] W fun e w' => e = .returned (.bool true) ∧ Chg [] W w' := fun W hW =>
    tables_w exL exL_ok (by decide) _ W (hG.chg (hC1.trans hW) (by simp)) ((exL_at hB1).ext hW)
  have hTb : (∀ p ∈ ps, p.nm.size ≤ 10) → ps.length ≤ 24 → ∀ W, Chg [] w1 W → Calls Tryz.prog 4 #[v] W fun e w' => e = .returned (.bool true) ∧ Chg [] W w' := fun h10 h24 W hW =>
    tables_w ps (fun p hp => ⟨(hok p hp).1, h10 p hp, (hok p hp).2⟩) h24 v W (hG.chg (hC1.trans hW) (by simp)) (hL.ext (hC1.trans hW))
  obtain ⟨A, c, rfl, hL⟩ := hL
  have hLx : ∀ W, Chg [] w1 W → ∀ k p, ps[k]? = some p → ∃ s o, A = some ⟨s, o, none⟩ ∧ W.cell? ⟨s, o + k * 3 + 1, none⟩ = some (.string p.nm) := fun W hW k p hp => by
    obtain ⟨s, o, e, hs, hr⟩ := hL k p hp
    exact ⟨s, o, e, by rw [(hC1.trans hW).cell hs (by simp)]; exact hr 1 _ rfl⟩
  have Hex := Lib.hid hEx
  have Htb := Lib.hid hTb
  have HLx := Lib.hid hLx
  clear hEx hTb hLx hL hok hG hB1
  go_enter Tryz.func3, Tryz.ntmps3
  by_cases h24 : 24 < ps.length
  · go_wp2_with (first
      | (go_at_call 4; rw [← hb]; go_loud (refine (Hex.out _ (Chg.refl _ _)).mono ?_); rintro e w2 ⟨rfl, hC2⟩))
    go_ret
    exact ⟨rfl, hC1.trans hC2⟩
  · go_upto_region 4 with fail
    rw [← hb]
    clear hb hw1
    go_wp2
    go_loopw [4] (fun i wr => ∃ k : Nat, k ≤ ps.length ∧ i = .int .i64 k ∧ (∀ (j : Nat) (p : Per), ps[j]? = some p → j < k → p.nm.size ≤ 10) ∧ wr = w1) (fun i _ => ps.length - (intOf i).toNat)
    case atStart => exact ⟨0, by omega, rfl, fun j p _ hj => by omega, rfl⟩
    case round =>
      obtain ⟨k, hk, rfl, h10, hww⟩ := hrel
      subst hww
      by_cases hk2 : k < ps.length
      · obtain ⟨p, hp⟩ : ∃ p, ps[k]? = some p := ⟨_, List.getElem?_eq_getElem hk2⟩
        obtain ⟨s, o, rfl, hc⟩ := HLx.out _ (Chg.refl _ _) k p hp
        by_cases hbig : 10 < p.nm.size
        · go_wp2_with (first
            | (go_at_call 4; go_loud (refine (Hex.out _ (Chg.refl _ _)).mono ?_); rintro e w2 ⟨rfl, hC2⟩))
          go_ret
          exact ⟨rfl, hC1.trans hC2⟩
        · go_wp2
          go_roundw
          case rel => exact ⟨k + 1, by omega, by go_num, fun j q hq hj => by
            by_cases e : j = k
            · subst e; rw [hp] at hq; cases hq; omega
            · exact h10 j q hq (by omega), trivial⟩
          case measure => simp [intOf]; omega
      · have hTb := Htb.out (fun p hp => by
          obtain ⟨j, hj⟩ := List.mem_iff_getElem?.1 hp
          exact h10 j p hj (by have := (List.getElem?_eq_some_iff.1 hj).1; omega)) (by omega)
        have HT := Lib.hid hTb
        clear hTb
        go_wp2_with (first
          | (have _h0 := hC2; go_at_call 4; go_loud (refine (Hex.out _ hC2).mono ?_); rintro e w3 ⟨rfl, hC3⟩)
          | (go_at_call 4; go_loud (refine (HT.out _ (Chg.refl _ _)).mono ?_); rintro e w2 ⟨rfl, hC2⟩))
        go_ret
        exact ⟨rfl, (hC1.trans hC2).trans hC3⟩

end Go.Proofs.YtpcaadipejnllaaGreatDoor

/- For every list of people TopTables returns true, and the list reads as before: the row and its tied card. -/
set_option linter.unusedVariables false
set_option linter.unusedSimpArgs false
namespace Go.Proofs.YtpcaadipejnllaaGreatDoor
open Go.ChangeShapes Go.WideShapes Go.ChangeAt Go.RowKit Go.Deep

section
variable {H : Type} {enc : TypeId × Value → H} {P : Program} {w : World} {base : Nat} {spare : Nat → Bool} {held : Bool}
/-- A slice of structs opened to its cells. -/
theorem open_slice_fields {t e : TypeId} {fs : Array Field} {fuel : Nat} {cs : List Value} {x : DataW H × List MemPlace} (ht : P.underlying t = some (.slice e)) (he : P.underlying e = some (.struct fs))
    (hone : oneCellFields P fs = true) (hC : P.cellsOf e = fs.size) (h : DataW.trod enc P w base spare held fuel t cs = some x) :
    (cs = [.slice none 0 0] ∧ x = (.nil, [])) ∨
    ∃ (a : Addr) (len cap m : Nat) (D : Nat → DataW H) (Pl : Nat → List MemPlace), cs = [.slice (some a) len cap] ∧ base ≤ a.block ∧ len ≤ cap ∧ cap ≤ maxLen ∧ m = (if spare a.block then cap else len) ∧
      x = (.slice ((List.range len).map D) ((List.range (m - len)).map fun j => D (len + j)), MemPlace.row a (m * fs.size) ++ (List.range m).flatMap Pl) ∧
      ∀ i, i < m → ∃ (ys : List (DataW H × List MemPlace)) (n : Nat), D i = .agg (ys.map (·.1)) ∧ Pl i = ys.flatMap (·.2) ∧ ys.length = fs.size ∧
        ∀ (j : Nat) (f : Field), fs[j]? = some f → ∃ (v : Value) (y : DataW H × List MemPlace), w.cell? (a.add (i * fs.size + j)) = some v ∧ ys[j]? = some y ∧ DataW.trod enc P w base spare held n f.type [v] = some y := by
  rcases open_slice ht h with h0 | ⟨a, len, cap, m, n, D, Pl, hcs, hb, hl, hm, hmm, hx, hi⟩
  · exact .inl h0
  · refine .inr ⟨a, len, cap, m, D, Pl, hcs, hb, hl, hm, hmm, by rw [hC] at hx; exact hx, fun i him => ?_⟩
    obtain ⟨cs', hc, ht'⟩ := hi i him
    rw [hC] at hc
    obtain ⟨ys, n', hn', hy, hlen, hyl, hf⟩ := DataW.trod_struct he ht'
    obtain ⟨_, hcl, hat⟩ := World.cells?_some hc
    simp only [Prod.mk.injEq] at hy
    refine ⟨ys, n', hy.1, hy.2, hyl, fun j f hj => ?_⟩
    obtain ⟨ho, hk⟩ := hone_of hone j f hj
    have hjl : j < fs.size := (Array.getElem?_eq_some_iff.1 hj).1
    have hcell := hat j hjl
    have hv : cs'[j]? = some (cs'[j]'(by omega)) := List.getElem?_eq_getElem (by omega)
    have h1 := hf j f hj
    rw [ho, hk] at h1
    have hone' : (cs'.drop j).take 1 = [cs'[j]'(by omega)] := by
      rw [List.drop_eq_getElem_cons (by omega)]
      rfl
    rw [hone'] at h1
    have hys : ys[j]? = some (ys[j]'(by omega)) := List.getElem?_eq_getElem (by omega)
    refine ⟨_, _, ?_, hys, h1.trans hys⟩
    rw [← Go.Deep.add_add, hcell, hv]
/-- The wrap that keeps a condition of one's own and the world's shape. -/
theorem returns_and_shaped {a : Assume} {C : Checked} {os : Os} {f : FuncId} {fn : Func} {s : ChangeSpec} {conds : List PathCond} {apart fresh handsOn again : Bool} {X : World → Array Value → Prop}
    (hX : ∀ (w w' : World) (args : Array Value), w.heap = w'.heap → X w args → X w' args)
    (own : ownKnob C.prog.godebug = none) (started : os.Started) (noInit : C.prog.inits.idxOf? f = none) (hfn : C.prog.funcs[f]? = some fn)
    (witness : ∃ (w : World) (tape : Tape) (i : Input), w.os = os ∧ (w.forCall tape i).Shaped C.prog ∧ i.vars = [] ∧ Input.okWide C.prog (w.forCall tape i) .any w.heap.size f i ∧
      ((s.pre enc C.prog fn conds apart (w.forCall tape i).memory i.args ∧ X (w.forCall tape i).memory i.args) ∧ sizedMet enc C.prog fn (OpenSpec.ofChange s) apart (w.forCall tape i).memory i.args) ∧ a.holds C.prog (lone (Frame.enter C.prog f i.args .normal) [] (w.forCall tape i)))
    (contract : ∀ (W : World) (base : Nat) (args : Array Value) (ds gs : List (DataW H)) (before : List MemPlace),
      (∀ (j : Nat) t v, fn.params[j]? = some t → args[j]? = some v → Value.okWide C.prog W .any base t v) →
      DataW.Whole enc C.prog fn.params.toList s.vars apart W args.toList ds gs before → X W args → W.ShapedOpen C.prog →
      Calls C.prog f args W fun e W' => ∃ v, e = .returned v ∧ s.post enc C.prog fn apart fresh handsOn again W args v W') :
    ReturnsInHanded a C os f .any (fun w args => (s.pre enc C.prog fn conds apart w args ∧ X w args) ∧ sizedMet enc C.prog fn (OpenSpec.ofChange s) apart w args) (s.post enc C.prog fn apart fresh handsOn again) := by
  refine returnsInHanded_of_calls own started noInit witness ?_
  intro w tape i _ hsh _ hok hpre hholds
  obtain ⟨_, _, _, fn', hfn', _, _, _, _, hval⟩ := hok
  have e : fn' = fn := Option.some.inj (hfn'.symm.trans hfn)
  subst e
  obtain ⟨⟨⟨ds, gs, before, hw, hc⟩, hx⟩, hz⟩ := hpre
  have hw' := DataW.Whole.of_heap (w' := w.forCall tape i) (by rfl) hw
  refine (contract (w.forCall tape i) w.heap.size i.args ds gs before hval hw' (hX _ _ _ (by rfl) hx) hsh).mono fun e W' ⟨v, he, hp⟩ => ?_
  subst he
  exact ChangeSpec.post_blind hp
end

/-- What the argument opens to: a list of people. -/
theorem people_of {H : Type} {enc : TypeId × Value → H} {W : World} {v0 : Value} {d0 : DataW H} {p : List MemPlace} (h : DataW.Trod enc Tryz.prog W 0 (fun _ => true) true 22 v0 d0 p) (hv : ∃ a len cap, v0 = .slice a len cap) :
    ∃ ps : List Per, PerS W v0 ps ∧ ∀ q ∈ ps, q.id < 65536 ∧ -32768 ≤ q.sc ∧ q.sc ≤ 32767 := by
  obtain ⟨A, len, cap, rfl⟩ := hv
  obtain ⟨fuel, hf⟩ := h
  have hf : DataW.trod enc Tryz.prog W 0 (fun _ => true) true fuel 22 [.slice A len cap] = some (d0, p) := hf
  rcases open_slice_fields Tryz.underlying22 Tryz.underlying26 (by kernel_rfl) (by kernel_rfl) hf with ⟨e, _⟩ | ⟨a, len', cap', m, D, Pl, e, hb, hlc, hcm, hm, hx, hi⟩
  · simp only [List.cons.injEq, Value.slice.injEq, and_true] at e
    obtain ⟨rfl, rfl, rfl⟩ := e
    exact ⟨[], ⟨none, 0, rfl, fun k p hp => by simp at hp⟩, by simp⟩
  · simp only [List.cons.injEq, Value.slice.injEq, and_true] at e
    obtain ⟨rfl, rfl, rfl⟩ := e
    have hml : len ≤ m := by rw [hm]; split <;> omega
    have key : ∀ i, ∃ q : Per, i < len → (q.id < 65536 ∧ -32768 ≤ q.sc ∧ q.sc ≤ 32767) ∧ W.cell? (a.add (i * 3)) = some (.int .u16 q.id) ∧ W.cell? (a.add (i * 3 + 1)) = some (.string q.nm) ∧ W.cell? (a.add (i * 3 + 2)) = some (.int .i16 q.sc) := fun i => by
      by_cases hil : i < len
      · obtain ⟨ys, n, _, _, _, hf⟩ := hi i (by omega)
        obtain ⟨v1, y1, c1, _, t1⟩ := hf 0 _ rfl
        obtain ⟨v2, y2, c2, _, t2⟩ := hf 1 _ rfl
        obtain ⟨v3, y3, c3, _, t3⟩ := hf 2 _ rfl
        obtain ⟨z1, e1, _, w1⟩ := DataW.trod_int Tryz.underlying23 t1
        obtain ⟨s2, e2, _, w2⟩ := DataW.trod_string Tryz.underlying9 t2
        obtain ⟨z3, e3, _, w3⟩ := DataW.trod_int Tryz.underlying24 t3
        simp only [List.cons.injEq, and_true] at e1 e2 e3
        subst e1 e2 e3
        have h1 : 0 ≤ z1 ∧ z1 ≤ 65535 := by simpa [Lit.wf, IntKind.min, IntKind.max, IntKind.signed, IntKind.bits] using w1
        have h3 : -32768 ≤ z3 ∧ z3 ≤ 32767 := by simpa [Lit.wf, IntKind.min, IntKind.max, IntKind.signed, IntKind.bits] using w3
        refine ⟨⟨z1.toNat, s2, z3⟩, fun _ => ⟨⟨by show z1.toNat < 65536; omega, h3.1, h3.2⟩, ?_, c2, c3⟩⟩
        show _ = some (Value.int .u16 ((z1.toNat : Nat) : Int))
        rw [Int.toNat_of_nonneg h1.1]
        exact c1
      · exact ⟨⟨0, ByteArray.empty, 0⟩, fun h => absurd h hil⟩
    obtain ⟨F, hF⟩ := Classical.axiomOfChoice key
    refine ⟨(List.range len).map F, ⟨some a, cap, by rw [List.length_map, List.length_range], fun k q hq => ?_⟩, fun q hq => ?_⟩
    · rw [List.getElem?_map] at hq
      obtain ⟨k', hk', rfl⟩ := Option.map_eq_some_iff.1 hq
      have hk : k < len := by have := (List.getElem?_eq_some_iff.1 hk').1; simpa using this
      have : k' = k := by rw [List.getElem?_range hk] at hk'; exact (Option.some.inj hk').symm
      subst this
      obtain ⟨_, c1, c2, c3⟩ := hF k' hk
      obtain ⟨b, off, spot⟩ := a
      have hspot : spot = none := by
        have h0 := (hF 0 (by omega)).2.1
        simpa [Addr.add] using World.cell?_spot h0
      subst hspot
      rw [Go.WideShapes.add_plain] at c1 c2 c3
      refine ⟨b, off, rfl, block_lt_of_cell c1, fun j u hj => ?_⟩
      match j, hj with
      | 0, hj => rw [Nat.add_zero, c1]; exact hj
      | 1, hj => rw [Nat.add_assoc, c2]; exact hj
      | 2, hj => rw [Nat.add_assoc, c3]; exact hj
    · obtain ⟨k, hk, rfl⟩ := List.mem_map.1 hq
      exact (hF k (List.mem_range.1 hk)).1

theorem top_own : ownKnob Tryz.prog.godebug = none := by kernel_rfl
theorem gv_of_shape {W : World} (h : W.ShapedOpen Tryz.prog) : Gv W :=
  Go.Proofs.cell_of_shapedOpen_int (zero := #[.int .i64 0]) (t := 3) h (of_decide_eq_true (by kernel_rfl)) (by kernel_rfl) rfl (by kernel_rfl) (by kernel_rfl) Tryz.underlying3

set_option maxRecDepth 100000 in
theorem top_lifted (os : Os) (started : os.Started) (H : Type) (enc : TypeId × Value → H) :
    ReturnsInHanded {} Tryz.checked os 3 .any (fun w args => (Rows.topTablesSpec.pre enc Tryz.prog Tryz.f3 [] false w args ∧ laidMetH Tryz.prog Rows.topTablesRow.laid w) ∧ sizedMet enc Tryz.prog Tryz.f3 (OpenSpec.ofChange Rows.topTablesSpec) false w args)
      (Rows.topTablesSpec.post enc Tryz.prog Tryz.f3 false true false false) := by
  refine returns_and_shaped (C := Tryz.checked) (X := fun w _ => laidMetH Tryz.prog Rows.topTablesRow.laid w) (fun _ _ _ hh h => h.of_heap hh) top_own started (by kernel_rfl) Tryz.func3
    (ChangeSpec.witness_shaped (enc := enc) (C := Tryz.checked) (os := os) (X := fun w _ => laidMetH Tryz.prog Rows.topTablesRow.laid w) false (World.laidAll Tryz.prog os Rows.topTablesRow.laid) #[.slice none 0 0] 8 (World.laidAll_os _ _ _)
      (World.shaped_of_ZipB (by kernel_rfl) (by kernel_rfl)) (by kernel_rfl) (by kernel_rfl) (by kernel_rfl)
      (by rw [MakeChecks.laidMetH_plain _ _ _ (by kernel_rfl)]; exact laidMet_laidAll _ (by kernel_rfl) (by kernel_rfl))) ?_
  intro W base args ds gs before hval0 hW hL hsh
  have hval : ∀ (j : Nat) t v, Tryz.f3.params[j]? = some t → args[j]? = some v → Value.okWide Tryz.prog W .any base t v := hval0
  have hW' := hW
  obtain ⟨p, q, hA0, hV, rfl, _, _⟩ := hW
  have hA : DataW.TrodAll enc Tryz.prog W 0 (fun _ => true) true Tryz.f3.params.toList args.toList ds p := hA0
  rw [Tryz.params3] at hA hval
  obtain ⟨v0, d0, rfl, rfl, h0⟩ := trodAll_one hA
  obtain ⟨rfl, rfl⟩ := trodVars_none hV
  obtain ⟨ps, hps, hok⟩ := people_of h0 (okWide_slice Tryz.underlying22 (hval 0 22 v0 rfl rfl))
  simp only [List.append_nil] at hW'
  have hlt : ∀ x ∈ p, x.block < W.heap.size := fun x hx => by simpa using hW'.lt x hx
  refine (toptables_w ps hok v0 W (gv_of_shape hsh) hps).mono fun e W' ⟨he, hC⟩ => ?_
  subst he
  exact ⟨_, rfl, _, _, _, [], p, [], hW', trodAll_mk1 (shut_bool Tryz.underlying4 _), trodAll_mk1 (Below.trod (by kernel_rfl) (by kernel_rfl) (of_decide_eq_true (by kernel_rfl)) h0 hC.below hlt), rfl, hC.below.frame _, fun h => by cases h⟩

theorem topTables_holds : Rows.TopTablesSaid :=
  OpenClaim.holds_of_wide 3 Tryz.f3 rfl rfl rfl rfl rfl rfl rfl ⟨rfl, rfl, rfl, rfl, rfl⟩ rfl rfl rfl rfl rfl (by kernel_rfl) Tryz.func3 (by kernel_rfl)
    (of_decide_eq_true (by kernel_rfl)) (by unfold Func.isWrapper; first | (rw [if_pos (by decide +kernel)]; kernel_rfl) | (rw [if_neg (by decide +kernel)]; exact ⟨rfl, rfl⟩))
    (fun os started H enc _ => top_lifted os started H enc)
theorem topTables_card_holds : Rows.TopTablesCardSaid :=
  Claim7.holds_tied_plain_at .later [] [.data, .pinned] true (true, "34c4f355f8bc7d8ddeaceb6ba6db9894d7bc1c4e101c01f42aeded32aee57e0b") false topTables_holds (fun _ h => by cases h) (by kernel_rfl) (fun _ h => by cases h) topTables_row_tie rfl ⟨rfl, rfl⟩ (by kernel_rfl) rfl
    (fun f fn hf hfn => by
      obtain rfl : f = 3 := Option.some.inj ((show Tryz.prog.funcNamed "ticketline/ticketlinetop.TopTables" = some 3 by kernel_rfl).symm.trans hf) |>.symm
      obtain rfl : fn = Tryz.f3 := (Option.some.inj (Tryz.func3.symm.trans hfn)).symm
      exact ⟨by kernel_rfl, fun j t ht => by
        rw [Tryz.params3] at ht
        have hm : t ∈ [22] := by simpa using Array.mem_of_getElem? ht
        have hall : ([22].all fun u => !Tryz.prog.wantsStandIn u) = true := by kernel_rfl
        exact (show Tryz.prog.wantsStandIn t = false by simpa using List.all_eq_true.1 hall t hm)⟩)
    (by kernel_rfl)
#print axioms topTables_card_holds

end Go.Proofs.YtpcaadipejnllaaGreatDoor
