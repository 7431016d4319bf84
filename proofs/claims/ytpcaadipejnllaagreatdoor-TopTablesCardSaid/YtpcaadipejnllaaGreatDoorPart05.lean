/- A page that is read: keys, loads, order. -/
import Derived.Test.YtpcaadipejnllaaGreatDoorPart04
import Derived.Deep.MidRow

set_option linter.unusedVariables false
set_option linter.unusedSimpArgs false
namespace Go.Proofs.YtpcaadipejnllaaGreatDoor
open Go.RowKit

set_option maxRecDepth 100000 in
set_option maxHeartbeats 1000000 in
theorem key_w (pg : List Nat) (g : PG) (k : Nat) (x : Pr) (w : World) (hP : IsPage pg g) (hk : g.l[k]? = some x) :
    Calls Tryz.prog 194 #[.agg (nums pg), .int .i64 k] w fun e w' => e = .returned (.tuple #[.string x.1, .int .i64 0]) ∧ Chg [] w w' := by
  have hsz : (nums pg).size = 128 := by rw [nums_size]; exact hP.head.len
  have hB0 := Blk.new w 72 (nums pg)
  have hC0 : Chg [] w (w.alloc (.cells (nums pg) 72)) := (Chg.refl _ _).alloc _
  have hl := hP.head.len
  have hle := load_eq g.l
  have hf := hP.ok.fit
  have h5 := hP.lvl5
  go_enter Tryz.func194, Tryz.ntmps194
  go_wp2_with (first
    | (go_at_call 195; refine (pair_w w.heap.size pg g k x _ hB0 hP hk).mono ?_; rintro e w1 ⟨rfl, hC1⟩))
  go_ret2
  exact ⟨rfl, (hC0.trans hC1).alloc _⟩

set_option maxRecDepth 100000 in
set_option maxHeartbeats 1000000 in
theorem load_w (pg : List Nat) (g : PG) (w : World) (hP : IsPage pg g) :
    Calls Tryz.prog 207 #[.agg (nums pg)] w fun e w' => e = .returned (.tuple #[.int .i64 (load g.l), .int .i64 0]) ∧ Chg [] w w' := by
  have hsz : (nums pg).size = 128 := by rw [nums_size]; exact hP.head.len
  have hB0 := Blk.new w 72 (nums pg)
  have hC0 : Chg [] w (w.alloc (.cells (nums pg) 72)) := (Chg.refl _ _).alloc _
  have hl := hP.head.len
  have hle := load_eq g.l
  have hf := hP.ok.fit
  have h5 := hP.lvl5
  go_enter Tryz.func207, Tryz.ntmps207
  go_wp2_with (first
    | (go_at_call 105; refine (list_w w.heap.size pg g _ hB0 hP).mono ?_; rintro e w1 ⟨v, rfl, hown, hC1⟩; obtain ⟨A, c, rfl, _, _⟩ := (Sl.own hown).form))
  go_loopw [6, 17] (fun n i wr => ∃ k : Nat, k ≤ g.l.length ∧ i = .int .i64 k ∧ n = .int .i64 (load (g.l.take k)) ∧ Chg [] w1 wr) (fun _ i _ => g.l.length - (intOf i).toNat)
  case atStart => exact ⟨0, by omega, rfl, rfl, Chg.refl _ _⟩
  case round =>
    obtain ⟨k, hk, rfl, rfl, hC⟩ := hrel
    have hldk := load_take g.l k
    have hldk2 := load_take g.l (k + 1)
    by_cases hlt : k < g.l.length
    · have hS2 := (Sl.own hown).ext hC
      obtain ⟨s, o, rfl, hs, hx'⟩ := hS2.at_ (by omega)
      obtain ⟨x, hxk⟩ : ∃ x, g.l[k]? = some x := ⟨_, List.getElem?_eq_getElem hlt⟩
      obtain ⟨g1, g2⟩ := prs_get g.l k x hxk
      have d1 := hx' (k * 2) (by omega)
      have d2 := hx' (k * 2 + 1) (by omega)
      rw [g1] at d1
      rw [g2, ← Nat.add_assoc] at d2
      obtain ⟨o1, o2, o3⟩ := hP.ok.ok x (List.mem_of_getElem? hxk)
      have htk : load (g.l.take (k + 1)) = load (g.l.take k) + costP x := by rw [List.take_add_one, hxk, load_app, ← load_one]; rfl
      clear hx' hS2 hown
      go_wp2_with (first
        | (go_at_call 176; refine (cost_w x _ (by omega) (by omega)).mono ?_; rintro e w5 ⟨rfl, rfl⟩))
      go_roundw
      case rel => exact ⟨k + 1, by omega, by go_num, by rw [htk]; go_num, hC.alloc _⟩
      case measure => simp [intOf]; omega
    · obtain rfl : k = g.l.length := by omega
      rw [List.take_length]
      go_wp2
      go_ret2
      exact ⟨by simp, (hC0.trans hC1).trans hC⟩

set_option maxRecDepth 100000 in
set_option maxHeartbeats 1000000 in
theorem sorted_w (pg : List Nat) (g : PG) (w : World) (hP : IsPage pg g) :
    Calls Tryz.prog 185 #[.agg (nums pg)] w fun e w' => ∃ v, e = .returned (.tuple #[v, .int .i64 0]) ∧ w'.ownsRow w.heap.size 93 2 v g.l.length (prs g.l) ∧ Chg [] w w' := by
  have hsz : (nums pg).size = 128 := by rw [nums_size]; exact hP.head.len
  have hB0 := Blk.new w 72 (nums pg)
  have hC0 : Chg [] w (w.alloc (.cells (nums pg) 72)) := (Chg.refl _ _).alloc _
  have hl := hP.head.len
  have hle := load_eq g.l
  have hf := hP.ok.fit
  have h5 := hP.lvl5
  go_enter Tryz.func185, Tryz.ntmps185
  go_wp2_with (first
    | (refine wpList_load_row rfl 72 (.tmp 1) rfl w.heap.size rfl 72 (nums pg) (0, 0) _ hB0 Tryz.underlying72 rfl (hsz ▸ (by kernel_rfl)) ?_)
    | (go_at_call 146; refine (pairs_w pg g _ hP).mono ?_; rintro e w1 ⟨v, rfl, hown, hC1⟩; obtain ⟨A, c, rfl, _, _⟩ := (Sl.own hown).form; have hown1 := own_base (b' := w.heap.size) hown (by simp)))
  go_loopw [6] (fun i wr => ∃ k : Nat, 1 ≤ k ∧ (k ≤ g.l.length ∨ k = 1) ∧ i = .int .i64 k ∧ Chg [] w1 wr) (fun i _ => g.l.length - (intOf i).toNat)
  case atStart => exact ⟨1, by omega, by omega, rfl, Chg.refl _ _⟩
  case round =>
    obtain ⟨k, hk1, hk2, rfl, hC⟩ := hrel
    by_cases hlt : k < g.l.length
    · have hS2 := (Sl.own hown).ext hC
      obtain ⟨s, o, rfl, hs, hx'⟩ := hS2.at_ (by omega)
      obtain ⟨x, hxk⟩ : ∃ x, g.l[k]? = some x := ⟨_, List.getElem?_eq_getElem hlt⟩
      obtain ⟨y, hyk⟩ : ∃ y, g.l[k - 1]? = some y := ⟨_, List.getElem?_eq_getElem (by omega)⟩
      obtain ⟨g1, g2⟩ := prs_get g.l k x hxk
      obtain ⟨p1, p2⟩ := prs_get g.l (k - 1) y hyk
      have d1 := hx' (k * 2) (by omega)
      rw [g1] at d1
      have d3 := hx' ((k - 1) * 2) (by omega)
      rw [p1] at d3
      have hord := hP.ok.ord (k - 1) y x hyk (by rw [show k - 1 + 1 = k by omega]; exact hxk)
      have hsub : IntKind.i64.wrap ((k : Int) - 1) = ((k - 1 : Nat) : Int) := by rw [show (k : Int) - 1 = ((k - 1 : Nat) : Int) by omega]; exact wrap_nat _ (by omega)
      clear hx' hS2
      go_wp2
      go_quiet ((go_at_call 61; exact Calls.quiet_of_same (compare_v _ _ _)))
      clear hsub
      go_wp2
      go_roundw
      case rel => exact ⟨k + 1, by omega, by omega, by go_num, hC.drewN _⟩
      case measure => simp [intOf]; omega
    · go_wp2
      go_ret2
      exact ⟨_, rfl, own_ext hown1 hC, (hC0.trans hC1).trans hC⟩

set_option maxRecDepth 100000 in
set_option maxHeartbeats 1000000 in
theorem sortedb_w (pg : List Nat) (g : PG) (w : World) (hP : IsPage pg g) :
    Calls Tryz.prog 193 #[.agg (nums pg)] w fun e w' => e = .returned (.bool true) ∧ Chg [] w w' := by
  have hsz : (nums pg).size = 128 := by rw [nums_size]; exact hP.head.len
  have hB0 := Blk.new w 72 (nums pg)
  have hC0 : Chg [] w (w.alloc (.cells (nums pg) 72)) := (Chg.refl _ _).alloc _
  have hl := hP.head.len
  have hle := load_eq g.l
  have hf := hP.ok.fit
  have h5 := hP.lvl5
  go_enter Tryz.func193, Tryz.ntmps193
  go_wp2_with (first
    | (refine wpList_load_row rfl 72 (.tmp 1) rfl w.heap.size rfl 72 (nums pg) (0, 0) _ hB0 Tryz.underlying72 rfl (hsz ▸ (by kernel_rfl)) ?_)
    | (go_at_call 185; refine (sorted_w pg g _ hP).mono ?_; rintro e w1 ⟨v, rfl, hown, hC1⟩))
  go_ret
  exact ⟨rfl, hC0.trans hC1⟩

set_option maxRecDepth 100000 in
set_option maxHeartbeats 1000000 in
theorem mcheck_w (pg : List Nat) (g : PG) (w : World) (hP : IsPage pg g) :
    Calls Tryz.prog 206 #[.agg (nums pg)] w fun e w' => e = .returned (.int .i64 0) ∧ Chg [] w w' := by
  have hsz : (nums pg).size = 128 := by rw [nums_size]; exact hP.head.len
  have hB0 := Blk.new w 72 (nums pg)
  have hC0 : Chg [] w (w.alloc (.cells (nums pg) 72)) := (Chg.refl _ _).alloc _
  have hl := hP.head.len
  have hle := load_eq g.l
  have hf := hP.ok.fit
  have h5 := hP.lvl5
  go_enter Tryz.func206, Tryz.ntmps206
  go_wp2_with (first
    | (refine wpList_load_row rfl 72 (.tmp 1) rfl w.heap.size rfl 72 (nums pg) (0, 0) _ hB0 Tryz.underlying72 rfl (hsz ▸ (by kernel_rfl)) ?_)
    | (refine wpList_load_row rfl 72 (.tmp 1) rfl w.heap.size rfl 72 (nums pg) (0, 0) _ hB1 Tryz.underlying72 rfl (hsz ▸ (by kernel_rfl)) ?_)
    | (go_at_call 64; refine (valid_w pg g _ hP).mono ?_; rintro e w1 ⟨rfl, hC1⟩; have hB1 := hB0.ext hC1)
    | (go_at_call 193; refine (sortedb_w pg g _ hP).mono ?_; rintro e w2 ⟨rfl, hC2⟩))
  go_ret
  exact ⟨rfl, (hC0.trans hC1).trans hC2⟩

set_option maxRecDepth 100000 in
set_option maxHeartbeats 1000000 in
theorem poor_w (pg : List Nat) (g : PG) (w : World) (hP : IsPage pg g) :
    Calls Tryz.prog 191 #[.agg (nums pg)] w fun e w' => e = .returned (.tuple #[.bool (decide (load g.l < 36)), .int .i64 0]) ∧ Chg [] w w' := by
  have hsz : (nums pg).size = 128 := by rw [nums_size]; exact hP.head.len
  have hB0 := Blk.new w 72 (nums pg)
  have hC0 : Chg [] w (w.alloc (.cells (nums pg) 72)) := (Chg.refl _ _).alloc _
  have hl := hP.head.len
  have hle := load_eq g.l
  have hf := hP.ok.fit
  have h5 := hP.lvl5
  go_enter Tryz.func191, Tryz.ntmps191
  go_wp2_with (first
    | (refine wpList_load_row rfl 72 (.tmp 1) rfl w.heap.size rfl 72 (nums pg) (0, 0) _ hB0 Tryz.underlying72 rfl (hsz ▸ (by kernel_rfl)) ?_)
    | (refine wpList_load_row rfl 72 (.tmp 1) rfl w.heap.size rfl 72 (nums pg) (0, 0) _ hB1 Tryz.underlying72 rfl (hsz ▸ (by kernel_rfl)) ?_)
    | (go_at_call 206; refine (mcheck_w pg g _ hP).mono ?_; rintro e w1 ⟨rfl, hC1⟩; have hB1 := hB0.ext hC1)
    | (go_at_call 207; refine (load_w pg g _ hP).mono ?_; rintro e w2 ⟨rfl, hC2⟩))
  go_ret2
  exact ⟨by simp; omega, (hC0.trans hC1).trans hC2⟩

end Go.Proofs.YtpcaadipejnllaaGreatDoor

/- A page that is searched. -/
set_option linter.unusedVariables false
set_option linter.unusedSimpArgs false
namespace Go.Proofs.YtpcaadipejnllaaGreatDoor
open Go.RowKit

set_option maxRecDepth 100000 in
set_option maxHeartbeats 1000000 in
theorem splace_w (l : List Pr) (key : ByteArray) (v : Value) (w : World) (hS : Sl w 2 v l.length (prs l)) (ho : Srt l) (hlen : l.length ≤ 1000) :
    Calls Tryz.prog 186 #[v, .string key] w fun e w' => ∃ (i : Nat) (is : Bool), e = .returned (.tuple #[.int .i64 i, .bool is]) ∧ PlaceAt l key i is ∧ w = w' := by
  obtain ⟨A, c, rfl, hc1, hc2⟩ := hS.form
  go_enter Tryz.func186, Tryz.ntmps186
  go_wp2
  go_step3
  go_wp2
  go_step3
  go_wp2
  go_loop [6, 7, 8] (fun a b m => ∃ lo hi : Nat, lo ≤ hi ∧ hi ≤ l.length ∧ a = .int .i64 lo ∧ b = .int .i64 hi ∧ m = .bool false ∧ (∀ (j : Nat) (x : Pr), j < lo → l[j]? = some x → cmpS x.1 key < 0) ∧ (∀ (j : Nat) (x : Pr), hi ≤ j → l[j]? = some x → 0 < cmpS x.1 key)) (fun a b _ => (intOf b).toNat - (intOf a).toNat)
  case atStart => exact ⟨0, l.length, by omega, by omega, rfl, rfl, rfl, fun j x h => by omega, fun j x h1 h2 => by have := (List.getElem?_eq_some_iff.1 h2).1; omega⟩
  case round =>
    obtain ⟨lo, hi, h1, h2, rfl, rfl, rfl, hlo, hhi⟩ := hrel
    by_cases hlt : lo < hi
    · obtain ⟨s, o, rfl, hs, hx'⟩ := hS.at_ (by omega)
      obtain ⟨m, hm⟩ : ∃ m, m = (lo + hi) / 2 := ⟨_, rfl⟩
      obtain ⟨x, hxk⟩ : ∃ x, l[m]? = some x := ⟨_, List.getElem?_eq_getElem (by omega)⟩
      obtain ⟨g1, g2⟩ := prs_get l m x hxk
      have d1 := hx' (m * 2) (by omega)
      rw [g1] at d1
      have hq : ((lo : Int) + (hi : Int)).tdiv 2 = (m : Int) := by rw [Int.tdiv_eq_ediv_of_nonneg (by omega)]; omega
      have hq2 : ((lo : Int) + (hi : Int)) / 2 = (m : Int) := by omega
      have hm1 : lo ≤ m := by omega
      have hm2 : m < hi := by omega
      clear hx' hm
      have hup : ∀ (j : Nat) (y : Pr), m < j → l[j]? = some y → cmpS x.1 y.1 < 0 := fun j y hj hy => ho m j x y hj hxk hy
      have hdn : ∀ (j : Nat) (y : Pr), j < m → l[j]? = some y → cmpS y.1 x.1 < 0 := fun j y hj hy => ho j m y x hj hy hxk
      rcases cmp_vals x.1 key with hv | hv | hv
      · go_wp2_with (go_at_call 61; refine (compare_w _ _ _).mono ?_; rintro e w1 ⟨rfl, rfl⟩)
        go_round
        case rel =>
          refine ⟨m + 1, hi, by omega, h2, by go_num, rfl, rfl, fun j y hj hy => ?_, hhi⟩
          rcases Nat.lt_or_ge j m with h | h
          · exact cmp_trans (hdn j y h hy) (by omega)
          · obtain rfl : j = m := by omega
            rw [hxk] at hy
            injection hy with hy
            subst hy
            omega
        case measure => simp [intOf]; omega
      · go_wp2_with (go_at_call 61; refine (compare_w _ _ _).mono ?_; rintro e w1 ⟨rfl, rfl⟩)
        simp only [Exit.noGoto]
        go_ret2
        have he := cmp_eq0 hv
        refine ⟨m, true, rfl, ⟨by omega, fun j y hj hy => ?_, fun j y hj hy => ?_, fun _ => ⟨x, hxk, he⟩, fun _ => rfl⟩, rfl⟩
        · rw [← he]; exact hdn j y hj hy
        · rcases Nat.lt_or_ge m j with h | h
          · have h3 := hup j y h hy
            rw [← he, cmp_anti]
            omega
          · obtain rfl : j = m := by omega
            rw [hxk] at hy
            injection hy with hy
            subst hy
            omega
      · go_wp2_with (go_at_call 61; refine (compare_w _ _ _).mono ?_; rintro e w1 ⟨rfl, rfl⟩)
        go_round
        case rel =>
          refine ⟨lo, m, by omega, by omega, rfl, rfl, rfl, hlo, fun j y hj hy => ?_⟩
          rcases Nat.lt_or_ge m j with h | h
          · have h3 := hup j y h hy
            have h4 : cmpS key x.1 < 0 := by rw [cmp_anti]; omega
            have h5 := cmp_trans h4 h3
            rw [cmp_anti]
            omega
          · obtain rfl : j = m := by omega
            rw [hxk] at hy
            injection hy with hy
            subst hy
            omega
        case measure => simp [intOf]; omega
    · obtain rfl : lo = hi := by omega
      go_wp2
      go_ret2
      refine ⟨lo, false, rfl, ⟨by omega, hlo, fun j x hj hx => Int.le_of_lt (hhi j x hj hx), ?_⟩, rfl⟩
      constructor
      · intro h; cases h
      · rintro ⟨x, hx, rfl⟩
        have := hhi lo x (Nat.le_refl _) hx
        rw [cmp_refl] at this
        omega

end Go.Proofs.YtpcaadipejnllaaGreatDoor

/- A page that is searched: where a key goes down. -/
set_option linter.unusedVariables false
set_option linter.unusedSimpArgs false
namespace Go.Proofs.YtpcaadipejnllaaGreatDoor
open Go.RowKit

set_option maxRecDepth 100000 in
set_option maxHeartbeats 1000000 in
theorem find_w (pg : List Nat) (g : PG) (key : ByteArray) (w : World) (hP : IsPage pg g) :
    Calls Tryz.prog 161 #[.agg (nums pg), .string key] w fun e w' => ∃ (i : Nat) (is : Bool), e = .returned (.tuple #[.int .i64 i, .bool is, .int .i64 0]) ∧ PlaceAt g.l key i is ∧ Chg [] w w' := by
  have hsz : (nums pg).size = 128 := by rw [nums_size]; exact hP.head.len
  have hB0 := Blk.new w 72 (nums pg)
  have hC0 : Chg [] w (w.alloc (.cells (nums pg) 72)) := (Chg.refl _ _).alloc _
  have hl := hP.head.len
  have hle := load_eq g.l
  have hf := hP.ok.fit
  have h5 := hP.lvl5
  go_enter Tryz.func161, Tryz.ntmps161
  go_wp2_with (first
    | (refine wpList_load_row rfl 72 (.tmp 2) rfl w.heap.size rfl 72 (nums pg) (0, 0) _ hB0 Tryz.underlying72 rfl (hsz ▸ (by kernel_rfl)) ?_)
    | (go_at_call 185; refine (sorted_w pg g _ hP).mono ?_; rintro e w1 ⟨v, rfl, hown, hC1⟩)
    | (go_at_call 186; refine (splace_w g.l key _ _ (Sl.own hown) hP.ok.srt (by omega)).mono ?_; rintro e w2 ⟨i, is, rfl, hpl, rfl⟩))
  exact bodyPost_ret (results_tmp3 rfl _ _ _) rfl ⟨i, is, rfl, hpl, hC0.trans hC1⟩

theorem field231 (w : World) (a b c d e : Int) : (Instr.field 231 (.agg #[.int .i64 a, .int .i64 b, .int .i64 c, .int .i64 d, .int .i64 e]) 1).run Tryz.prog w = .ok (.int .i64 b) w := by
  obtain ⟨i0, hi, hz0, hz1, hz2⟩ := info_parts info3
  have hagg : (isAgg 3).run Tryz.prog w = .ok false w := by
    unfold isAgg
    rw [Sem.run_bind, run_underlying Tryz.underlying3 w]
    rfl
  simp [Instr.field, run_underlying Tryz.underlying231, Sem.run_bind, part, asAgg, hagg, go_sem]

theorem entry_l (a k v : Nat) (w : World) (ha : a ≤ 128) (hk : k < 256) (hv : v < 256) :
    Calls Tryz.prog 139 #[.int .u64 (dirW a k v)] w fun e w' => e = .returned (.agg #[.int .i64 a, .int .i64 (a + nw k : Nat), .int .i64 (a + nw k + nw v : Nat), .int .i64 k, .int .i64 v]) ∧ Chg [] w w' := entry_w a k v w ha hk hv

set_option maxRecDepth 100000 in
set_option maxHeartbeats 1000000 in
theorem child_at_w (pg : List Nat) (g : PG) (k n : Nat) (x : Pr) (w : World) (hP : IsPage pg g) (hk : g.l[k]? = some x) (h0 : g.lvl ≠ 0) (hn : n ≤ 511) (hx : x.2 = numS n) :
    Calls Tryz.prog 166 #[.agg (nums pg), .int .i64 k] w fun e w' => e = .returned (.tuple #[.int .i64 n, .int .i64 0]) ∧ Chg [] w w' := by
  have hsz : (nums pg).size = 128 := by rw [nums_size]; exact hP.head.len
  have hB0 := Blk.new w 72 (nums pg)
  have hC0 : Chg [] w (w.alloc (.cells (nums pg) 72)) := (Chg.refl _ _).alloc _
  have hl := hP.head.len
  have hle := load_eq g.l
  have hf := hP.ok.fit
  have h5 := hP.lvl5
  obtain ⟨hE, hta, hrs, hr8⟩ := hP.ent hk
  have hO := hP.ok.ok x (List.mem_of_getElem? hk)
  obtain ⟨a, ha⟩ : ∃ a, a = 128 - recs (g.l.take (k + 1)) := ⟨_, rfl⟩
  rw [← ha] at hE hta
  have hhi := hE.hi
  have hlo := hE.lo
  have hr : rec_ x = nw x.1.size + nw x.2.size := rfl
  have hks : x.1.size < 256 := by have := hO.k; omega
  have hvs : x.2.size < 256 := by have := hO.v; omega
  have hnv : 0 < nw x.2.size := by have := hO.p; unfold nw; omega
  have hDir := Lib.hid hE.dir
  have hmid : wd pg (a + nw x.1.size) = (n : Int) := by rw [show a + nw x.1.size = a + nw x.1.size + 0 from rfl, hE.vw 0 (by omega), hx, pk_num n hn]
  have hMid := Lib.hid hmid
  have z1 : ((g.lvl : Int) + 1 == 1) = false := by rw [beq_eq_false_iff_ne]; omega
  have hkl : k < g.l.length := (List.getElem?_eq_some_iff.1 hk).1
  clear ha hmid hx
  have qf := field231
  go_enter Tryz.func166, Tryz.ntmps166
  go_wp2_with (first
    | (go_at_call 195; refine (pair_w w.heap.size pg g k x _ hB0 hP hk).mono ?_; rintro e w1 ⟨rfl, hC1⟩; have hB1 := hB0.ext hC1; have hlt1 := hB1.lt; have c8 := hB1.num 8 (by omega); rw [hP.head.kind] at c8; have cd := hB1.num (20 + k) (by omega); rw [hDir.out] at cd)
    | (go_at_call 139; refine (entry_l a x.1.size x.2.size _ (by omega) hks hvs).mono ?_; rintro e w3 ⟨rfl, hC3⟩; clear cd; have hB3 := (hB1.alloc (.cells #[.string x.1, .string x.2] 93)).ext hC3; have cm := hB3.num (a + nw x.1.size) (by omega); rw [hMid.out] at cm))
  go_ret2
  exact ⟨by go_num, ((hC0.trans hC1).alloc _).trans hC3⟩

/-- Where a key goes down. -/
structure DownAt (l : List Pr) (key : ByteArray) (i : Nat) : Prop where
  lt : i < l.length
  lo : ∀ (x : Pr), l[i]? = some x → cmpS x.1 key ≤ 0
  hi : ∀ (x : Pr), l[i + 1]? = some x → cmpS key x.1 < 0

set_option maxRecDepth 100000 in
set_option maxHeartbeats 1000000 in
theorem down_leaf (pg : List Nat) (g : PG) (key : ByteArray) (w : World) (hP : IsPage pg g) (h0 : g.lvl = 0) :
    Calls Tryz.prog 144 #[.agg (nums pg), .string key] w fun e w' => e = .returned (.tuple #[.int .i64 0, .int .i64 0, .int .i64 8]) ∧ Chg [] w w' := by
  have hsz : (nums pg).size = 128 := by rw [nums_size]; exact hP.head.len
  have hB0 := Blk.new w 72 (nums pg)
  have hC0 : Chg [] w (w.alloc (.cells (nums pg) 72)) := (Chg.refl _ _).alloc _
  have hl := hP.head.len
  have hle := load_eq g.l
  have hf := hP.ok.fit
  have h5 := hP.lvl5
  have z1 : ((g.lvl : Int) == 0) = true := by rw [h0]; rfl
  clear h0
  go_enter Tryz.func144, Tryz.ntmps144
  go_wp2_with (first
    | (refine wpList_load_row rfl 72 (.tmp 2) rfl w.heap.size rfl 72 (nums pg) (0, 0) _ hB1 Tryz.underlying72 rfl (hsz ▸ (by kernel_rfl)) ?_)
    | (refine wpList_load_row rfl 72 (.tmp 2) rfl w.heap.size rfl 72 (nums pg) (0, 0) _ hB0 Tryz.underlying72 rfl (hsz ▸ (by kernel_rfl)) ?_)
    | (go_at_call 161; refine (find_w pg g key _ hP).mono ?_; rintro e w1 ⟨i, is, rfl, hpl, hC1⟩; have hB1 := hB0.ext hC1)
    | (go_at_call 147; refine (level_w pg g _ hP).mono ?_; rintro e w2 ⟨rfl, hC2⟩))
  exact bodyPost_ret (results_tmp3 rfl _ _ _) rfl ⟨rfl, (hC0.trans hC1).trans hC2⟩

set_option maxRecDepth 100000 in
set_option maxHeartbeats 1000000 in
theorem down_inner (pg : List Nat) (g : PG) (key : ByteArray) (w : World) (hP : IsPage pg g) (h0 : g.lvl ≠ 0) (hm : ∃ x, g.l[0]? = some x ∧ cmpS x.1 key ≤ 0) :
    Calls Tryz.prog 144 #[.agg (nums pg), .string key] w fun e w' => ∃ (i n : Nat) (x : Pr), e = .returned (.tuple #[.int .i64 i, .int .i64 n, .int .i64 0]) ∧ g.l[i]? = some x ∧ 1 ≤ n ∧ n ≤ 511 ∧ x.2 = numS n ∧ DownAt g.l key i ∧ Chg [] w w' := by
  have hsz : (nums pg).size = 128 := by rw [nums_size]; exact hP.head.len
  have hB0 := Blk.new w 72 (nums pg)
  have hC0 : Chg [] w (w.alloc (.cells (nums pg) 72)) := (Chg.refl _ _).alloc _
  have hl := hP.head.len
  have hle := load_eq g.l
  have hf := hP.ok.fit
  have h5 := hP.lvl5
  obtain ⟨x0, hx0, hm⟩ := hm
  have z1 : ((g.lvl : Int) == 0) = false := by rw [beq_eq_false_iff_ne]; omega
  have hkey : ∀ (i : Nat) (is : Bool), PlaceAt g.l key i is → ∃ (j : Nat), (is = true → j = i) ∧ (is = false → j + 1 = i) ∧ DownAt g.l key j := fun i is hp => by
    cases is with
    | true =>
      obtain ⟨x, hx, he⟩ := hp.met.1 rfl
      refine ⟨i, fun _ => rfl, (fun h => by cases h), (List.getElem?_eq_some_iff.1 hx).1, fun y hy => ?_, fun y hy => ?_⟩
      · rw [hx] at hy; injection hy with hy; subst hy; rw [he, cmp_refl]; exact Int.le_refl _
      · rw [← he]; exact hP.ok.srt i (i + 1) x y (by omega) hx hy
    | false =>
      have hi0 : i ≠ 0 := by
        rintro rfl
        have h1 := hp.hi 0 x0 (Nat.le_refl _) hx0
        have h2 : x0.1 = key := cmp_eq0 (by omega)
        have := hp.met.2 ⟨x0, hx0, h2⟩
        cases this
      have hle := hp.le
      refine ⟨i - 1, fun h => by (cases h), fun _ => by omega, by omega, fun y hy => Int.le_of_lt (hp.lo (i - 1) y (by omega) hy), fun y hy => ?_⟩
      rw [show i - 1 + 1 = i by omega] at hy
      have h1 := hp.hi i y (Nat.le_refl _) hy
      rcases cmp_vals y.1 key with h | h | h
      · omega
      · have := hp.met.2 ⟨y, hy, cmp_eq0 h⟩
        cases this
      · rw [cmp_anti]; omega
  go_enter Tryz.func144, Tryz.ntmps144
  go_wp2_with (first
    | (refine wpList_load_row rfl 72 (.tmp 2) rfl w.heap.size rfl 72 (nums pg) (0, 0) _ hB2 Tryz.underlying72 rfl (hsz ▸ (by kernel_rfl)) ?_)
    | (refine wpList_load_row rfl 72 (.tmp 2) rfl w.heap.size rfl 72 (nums pg) (0, 0) _ hB1 Tryz.underlying72 rfl (hsz ▸ (by kernel_rfl)) ?_)
    | (refine wpList_load_row rfl 72 (.tmp 2) rfl w.heap.size rfl 72 (nums pg) (0, 0) _ hB0 Tryz.underlying72 rfl (hsz ▸ (by kernel_rfl)) ?_)
    | (go_at_call 161; refine (find_w pg g key _ hP).mono ?_; rintro e w1 ⟨i, is, rfl, hpl, hC1⟩; have hB1 := hB0.ext hC1; obtain ⟨j, hj1, hj2, hD⟩ := hkey i is hpl; obtain ⟨x, hxj⟩ : ∃ x, g.l[j]? = some x := ⟨_, List.getElem?_eq_getElem hD.lt⟩; obtain ⟨_, n, hn1, hn2, hxn⟩ := hP.ok.keyN h0 j x hxj; have hjl := hD.lt)
    | (go_at_call 147; refine (level_w pg g _ hP).mono ?_; rintro e w2 ⟨rfl, hC2⟩; have hB2 := hB1.ext hC2))
  · exfalso
    have hib := hpl.le
    have h2 := hj2 (by simpa using ‹(!is) = true›)
    have h3 : wrap64 ((i : Int) - 1) < 0 := by assumption
    have hw : wrap64 ((i : Int) - 1) = (i : Int) - 1 := by unfold wrap64; omega
    omega
  · have hib := hpl.le
    have h2 := hj2 (by simpa using ‹(!is) = true›)
    have hw : wrap64 ((i : Int) - 1) = (j : Int) := by unfold wrap64; omega
    rw [hw]
    refine (child_at_w pg g j n x _ hP hxj h0 hn2 hxn).mono ?_
    rintro e w3 ⟨rfl, hC3⟩
    go_wp2
    exact bodyPost_ret (results_tmp3 rfl _ _ _) rfl ⟨j, n, x, rfl, hxj, hn1, hn2, hxn, hD, ((hC0.trans hC1).trans hC2).trans hC3⟩
  · have h2 := hj1 (by simpa using ‹(!is) = false›)
    subst h2
    refine (child_at_w pg g j n x _ hP hxj h0 hn2 hxn).mono ?_
    rintro e w3 ⟨rfl, hC3⟩
    go_wp2
    exact bodyPost_ret (results_tmp3 rfl _ _ _) rfl ⟨j, n, x, rfl, hxj, hn1, hn2, hxn, hD, ((hC0.trans hC1).trans hC2).trans hC3⟩

end Go.Proofs.YtpcaadipejnllaaGreatDoor

/- Fences of a page. -/
set_option linter.unusedVariables false
set_option linter.unusedSimpArgs false
namespace Go.Proofs.YtpcaadipejnllaaGreatDoor
open Go.RowKit

/-- A key lies between two fences. -/
def Ins (low high key : ByteArray) : Prop := cmpS low key ≤ 0 ∧ (high.size = 0 ∨ (0 < high.size ∧ cmpS key high < 0))

set_option maxRecDepth 100000 in
set_option maxHeartbeats 1000000 in
theorem fplace_w (low high key : ByteArray) (w : World) (h : Ins low high key) :
    Calls Tryz.prog 208 #[.string low, .string high, .string key] w fun e w' => e = .returned (.int .i64 0) ∧ w = w' := by
  obtain ⟨h1, h2⟩ := h
  have h3 := cmp_anti low key
  have h4 : 0 ≤ cmpS key low := by omega
  clear h3
  rcases h2 with h2 | ⟨h2, h5⟩
  · have he := isemp h2
    go_enter Tryz.func208, Tryz.ntmps208
    go_wp2_with (go_at_call 61; refine (compare_w _ _ _).mono ?_; rintro e w1 ⟨rfl, rfl⟩)
    go_ret
    exact ⟨rfl, rfl⟩
  · have he := nonemp h2
    go_enter Tryz.func208, Tryz.ntmps208
    go_wp2_with (go_at_call 61; refine (compare_w _ _ _).mono ?_; rintro e w1 ⟨rfl, rfl⟩)
    go_ret
    exact ⟨rfl, rfl⟩

def PG.Inside (g : PG) : Prop := ∀ x ∈ g.l, Ins g.low g.high x.1

set_option maxRecDepth 100000 in
set_option maxHeartbeats 1000000 in
theorem within_w (pg : List Nat) (g : PG) (w : World) (hP : IsPage pg g) (hI : g.Inside) :
    Calls Tryz.prog 192 #[.agg (nums pg)] w fun e w' => e = .returned (.tuple #[.bool true, .int .i64 0]) ∧ Chg [] w w' := by
  have hsz : (nums pg).size = 128 := by rw [nums_size]; exact hP.head.len
  have hB0 := Blk.new w 72 (nums pg)
  have hC0 : Chg [] w (w.alloc (.cells (nums pg) 72)) := (Chg.refl _ _).alloc _
  have hl := hP.head.len
  have hle := load_eq g.l
  have hf := hP.ok.fit
  have h5 := hP.lvl5
  go_enter Tryz.func192, Tryz.ntmps192
  go_wp2_with (first
    | (refine wpList_load_row rfl 72 (.tmp 1) rfl w.heap.size rfl 72 (nums pg) (0, 0) _ hB1 Tryz.underlying72 rfl (hsz ▸ (by kernel_rfl)) ?_)
    | (refine wpList_load_row rfl 72 (.tmp 1) rfl w.heap.size rfl 72 (nums pg) (0, 0) _ hB0 Tryz.underlying72 rfl (hsz ▸ (by kernel_rfl)) ?_)
    | (go_at_call 145; refine (fences_w pg g _ hP).mono ?_; rintro e w1 ⟨rfl, hC1⟩; have hB1 := hB0.ext hC1)
    | (go_at_call 146; refine (pairs_w pg g _ hP).mono ?_; rintro e w2 ⟨v, rfl, hown, hC2⟩; obtain ⟨A, c, rfl, _, _⟩ := (Sl.own hown).form))
  go_loopw [26] (fun i wr => ∃ k : Nat, k ≤ g.l.length ∧ i = .int .i64 k ∧ Chg [] w2 wr) (fun i _ => g.l.length - (intOf i).toNat)
  case atStart => exact ⟨0, by omega, rfl, Chg.refl _ _⟩
  case round =>
    obtain ⟨k, hk, rfl, hC⟩ := hrel
    by_cases hlt : k < g.l.length
    · have hS2 := (Sl.own hown).ext hC
      obtain ⟨s, o, rfl, hs, hx'⟩ := hS2.at_ (by omega)
      obtain ⟨x, hxk⟩ : ∃ x, g.l[k]? = some x := ⟨_, List.getElem?_eq_getElem hlt⟩
      obtain ⟨g1, g2⟩ := prs_get g.l k x hxk
      have d1 := hx' (k * 2) (by omega)
      have d2 := hx' (k * 2 + 1) (by omega)
      rw [g1] at d1
      rw [g2, ← Nat.add_assoc] at d2
      have hin := hI x (List.mem_of_getElem? hxk)
      clear hx' hS2 hown
      go_wp2_with (first
        | (go_at_call 208; refine (fplace_w _ _ _ _ hin).mono ?_; rintro e w5 ⟨rfl, rfl⟩))
      go_roundw
      case rel => exact ⟨k + 1, by omega, by go_num, hC.alloc _⟩
      case measure => simp [intOf]; omega
    · go_wp2
      go_ret2
      exact ⟨rfl, ((hC0.trans hC1).trans hC2).trans hC⟩

theorem own_at {w : World} {base : Nat} {e : TypeId} {size n : Nat} {v : Value} {xs : List Value} (h : w.ownsRow base e size v n xs) (hn : 0 < n) :
    ∃ s o c, v = .slice (some ⟨s, o, none⟩) n c ∧ s < w.heap.size ∧ ∀ j, j < n * size → w.cell? ⟨s, o + j, none⟩ = xs[j]? := by
  have hS := Sl.own h
  obtain ⟨A, c, rfl, _, _⟩ := hS.form
  obtain ⟨s, o, rfl, hs, hx⟩ := hS.at_ hn
  exact ⟨s, o, c, rfl, hs, hx⟩
/-- The upper fence of a child. -/
def hiOf (g : PG) (k : Nat) : ByteArray := match g.l[k + 1]? with
  | some y => y.1
  | none => g.high

set_option maxRecDepth 100000 in
set_option maxHeartbeats 1000000 in
theorem fchild_w (pg : List Nat) (g : PG) (k : Nat) (x : Pr) (w : World) (hP : IsPage pg g) (hk : g.l[k]? = some x) (h0 : g.lvl ≠ 0) :
    Calls Tryz.prog 167 #[.agg (nums pg), .int .i64 k] w fun e w' => e = .returned (.tuple #[.string x.1, .string (hiOf g k), .int .i64 0]) ∧ Chg [] w w' := by
  have hsz : (nums pg).size = 128 := by rw [nums_size]; exact hP.head.len
  have hB0 := Blk.new w 72 (nums pg)
  have hC0 : Chg [] w (w.alloc (.cells (nums pg) 72)) := (Chg.refl _ _).alloc _
  have hl := hP.head.len
  have hle := load_eq g.l
  have hf := hP.ok.fit
  have h5 := hP.lvl5
  have z1 : ((g.lvl : Int) == 0) = false := by rw [beq_eq_false_iff_ne]; omega
  have hkl : k < g.l.length := (List.getElem?_eq_some_iff.1 hk).1
  obtain ⟨g1, g2⟩ := prs_get g.l k x hk
  by_cases hk1 : k + 1 < g.l.length
  · obtain ⟨y, hy⟩ : ∃ y, g.l[k + 1]? = some y := ⟨_, List.getElem?_eq_getElem hk1⟩
    obtain ⟨p1, p2⟩ := prs_get g.l (k + 1) y hy
    have hh : hiOf g k = y.1 := by unfold hiOf; rw [hy]
    rw [hh]
    clear hh
    go_enter Tryz.func167, Tryz.ntmps167
    go_wp2_with (first
      | (refine wpList_load_row rfl 72 (.tmp 2) rfl w.heap.size rfl 72 (nums pg) (0, 0) _ hB3 Tryz.underlying72 rfl (hsz ▸ (by kernel_rfl)) ?_)
      | (refine wpList_load_row rfl 72 (.tmp 2) rfl w.heap.size rfl 72 (nums pg) (0, 0) _ hB2 Tryz.underlying72 rfl (hsz ▸ (by kernel_rfl)) ?_)
      | (refine wpList_load_row rfl 72 (.tmp 2) rfl w.heap.size rfl 72 (nums pg) (0, 0) _ hB1 Tryz.underlying72 rfl (hsz ▸ (by kernel_rfl)) ?_)
      | (refine wpList_load_row rfl 72 (.tmp 2) rfl w.heap.size rfl 72 (nums pg) (0, 0) _ hB0 Tryz.underlying72 rfl (hsz ▸ (by kernel_rfl)) ?_)
      | (go_at_call 146; refine (pairs_w pg g _ hP).mono ?_; rintro e w1 ⟨v, rfl, hown, hC1⟩; obtain ⟨s, o, c, rfl, hs, hx'⟩ := own_at hown (by omega); have hB1 := hB0.ext hC1)
      | (go_at_call 193; refine (sortedb_w pg g _ hP).mono ?_; rintro e w2 ⟨rfl, hC2⟩; have hB2 := hB1.ext hC2)
      | (go_at_call 147; refine (level_w pg g _ hP).mono ?_; rintro e w3 ⟨rfl, hC3⟩; have hB3 := hB2.ext hC3)
      | (go_at_call 145; refine (fences_w pg g _ hP).mono ?_; rintro e w4 ⟨rfl, hC4⟩; have d1 := hx' (k * 2) (by omega); rw [g1] at d1; have d3 := hx' ((k + 1) * 2) (by omega); rw [p1] at d3; have f3 : w4.cell? ⟨s, o + (k + 1) * 2, none⟩ = some (.string y.1) := (by rw [((hC2.trans hC3).trans hC4).cell hs (by simp)]; exact d3); clear d3; have f1 : w4.cell? ⟨s, o + k * 2, none⟩ = some (.string x.1) := (by rw [((hC2.trans hC3).trans hC4).cell hs (by simp)]; exact d1); clear d1 hx'))
    exact bodyPost_ret (results_tmp3 rfl _ _ _) rfl ⟨rfl, (((hC0.trans hC1).trans hC2).trans hC3).trans hC4⟩
  · have hh : hiOf g k = g.high := by unfold hiOf; rw [List.getElem?_eq_none (by omega)]
    rw [hh]
    clear hh
    go_enter Tryz.func167, Tryz.ntmps167
    go_wp2_with (first
      | (refine wpList_load_row rfl 72 (.tmp 2) rfl w.heap.size rfl 72 (nums pg) (0, 0) _ hB3 Tryz.underlying72 rfl (hsz ▸ (by kernel_rfl)) ?_)
      | (refine wpList_load_row rfl 72 (.tmp 2) rfl w.heap.size rfl 72 (nums pg) (0, 0) _ hB2 Tryz.underlying72 rfl (hsz ▸ (by kernel_rfl)) ?_)
      | (refine wpList_load_row rfl 72 (.tmp 2) rfl w.heap.size rfl 72 (nums pg) (0, 0) _ hB1 Tryz.underlying72 rfl (hsz ▸ (by kernel_rfl)) ?_)
      | (refine wpList_load_row rfl 72 (.tmp 2) rfl w.heap.size rfl 72 (nums pg) (0, 0) _ hB0 Tryz.underlying72 rfl (hsz ▸ (by kernel_rfl)) ?_)
      | (go_at_call 146; refine (pairs_w pg g _ hP).mono ?_; rintro e w1 ⟨v, rfl, hown, hC1⟩; obtain ⟨s, o, c, rfl, hs, hx'⟩ := own_at hown (by omega); have hB1 := hB0.ext hC1)
      | (go_at_call 193; refine (sortedb_w pg g _ hP).mono ?_; rintro e w2 ⟨rfl, hC2⟩; have hB2 := hB1.ext hC2)
      | (go_at_call 147; refine (level_w pg g _ hP).mono ?_; rintro e w3 ⟨rfl, hC3⟩; have hB3 := hB2.ext hC3)
      | (go_at_call 145; refine (fences_w pg g _ hP).mono ?_; rintro e w4 ⟨rfl, hC4⟩; have d1 := hx' (k * 2) (by omega); rw [g1] at d1; have f1 : w4.cell? ⟨s, o + k * 2, none⟩ = some (.string x.1) := (by rw [((hC2.trans hC3).trans hC4).cell hs (by simp)]; exact d1); clear d1 hx'))
    exact bodyPost_ret (results_tmp3 rfl _ _ _) rfl ⟨rfl, (((hC0.trans hC1).trans hC2).trans hC3).trans hC4⟩

end Go.Proofs.YtpcaadipejnllaaGreatDoor

/- Costs of a list, and its half. -/
set_option linter.unusedVariables false
set_option linter.unusedSimpArgs false
namespace Go.Proofs.YtpcaadipejnllaaGreatDoor
open Go.RowKit

/-- Sizes that a list of pairs may have. -/
def OkS (l : List Pr) : Prop := ∀ x ∈ l, OkP x
theorem costP_le {x : Pr} (h : OkP x) : costP x ≤ 9 := by
  have h1 : nw x.1.size ≤ 3 := nw_le (by have := h.k; omega)
  have h2 : nw x.2.size ≤ 5 := nw_le (by have := h.v; omega)
  unfold costP rec_; omega
theorem load_le {l : List Pr} (h : OkS l) : load l ≤ 9 * l.length := by
  induction l with
  | nil => simp [load]
  | cons x l ih =>
    have h1 := costP_le (h x (by simp))
    have h2 := ih (fun y hy => h y (by simp [hy]))
    have : load (x :: l) = costP x + load l := by simp [load]
    rw [this, List.length_cons]; omega

set_option maxRecDepth 100000 in
set_option maxHeartbeats 1000000 in
theorem tcost_w (l : List Pr) (v : Value) (w : World) (hS : Sl w 2 v l.length (prs l)) (hO : OkS l) (hlen : l.length ≤ 1000) :
    Calls Tryz.prog 148 #[v] w fun e w' => e = .returned (.int .i64 (load l)) ∧ Chg [] w w' := by
  obtain ⟨A, c, rfl, _, _⟩ := hS.form
  have hll := load_le hO
  go_enter Tryz.func148, Tryz.ntmps148
  go_wp2
  go_loopw [3, 8] (fun n i wr => ∃ k : Nat, k ≤ l.length ∧ i = .int .i64 k ∧ n = .int .i64 (load (l.take k)) ∧ Chg [] w wr) (fun _ i _ => l.length - (intOf i).toNat)
  case atStart => exact ⟨0, by omega, rfl, rfl, Chg.refl _ _⟩
  case round =>
    obtain ⟨k, hk, rfl, rfl, hC⟩ := hrel
    have hldk := load_take l k
    have hldk2 := load_take l (k + 1)
    by_cases hlt : k < l.length
    · have hS2 := hS.ext hC
      obtain ⟨s, o, rfl, hs, hx'⟩ := hS2.at_ (by omega)
      obtain ⟨x, hxk⟩ : ∃ x, l[k]? = some x := ⟨_, List.getElem?_eq_getElem hlt⟩
      obtain ⟨g1, g2⟩ := prs_get l k x hxk
      have d1 := hx' (k * 2) (by omega)
      have d2 := hx' (k * 2 + 1) (by omega)
      rw [g1] at d1
      rw [g2, ← Nat.add_assoc] at d2
      obtain ⟨o1, o2, o3⟩ := hO x (List.mem_of_getElem? hxk)
      have htk : load (l.take (k + 1)) = load (l.take k) + costP x := by rw [List.take_add_one, hxk, load_app, ← load_one]; rfl
      clear hx' hS2
      go_wp2_with (first
        | (go_at_call 176; refine (cost_w x _ (by omega) (by omega)).mono ?_; rintro e w5 ⟨rfl, rfl⟩))
      go_roundw
      case rel => exact ⟨k + 1, by omega, by go_num, by rw [htk]; go_num, hC.alloc _⟩
      case measure => simp [intOf]; omega
    · obtain rfl : k = l.length := by omega
      rw [List.take_length]
      go_wp2
      go_ret
      exact ⟨rfl, hC⟩

/-- How far from the middle a place is. -/
def dst (l : List Pr) (i : Nat) : Nat := ((2 * (load (l.take i) : Int)) - (load l : Int)).natAbs
/-- A place next to the middle. -/
structure HalfAt (l : List Pr) (at_ : Nat) : Prop where
  pos : 1 ≤ at_
  lt : at_ < l.length
  min : ∀ i, 1 ≤ i → i < l.length → dst l at_ ≤ dst l i

set_option maxRecDepth 100000 in
set_option maxHeartbeats 1000000 in
theorem half_w (l : List Pr) (v : Value) (w : World) (hS : Sl w 2 v l.length (prs l)) (hO : OkS l) (hlen : l.length ≤ 1000) (h2 : 2 ≤ l.length) :
    Calls Tryz.prog 154 #[v] w fun e w' => ∃ at_ : Nat, e = .returned (.int .i64 at_) ∧ HalfAt l at_ ∧ Chg [] w w' := by
  have hS0 := hS
  obtain ⟨A, c, rfl, _, _⟩ := hS.form
  have hll := load_le hO
  go_enter Tryz.func154, Tryz.ntmps154
  go_wp2_with (first
    | (go_at_call 148; refine (tcost_w l _ _ hS0 hO hlen).mono ?_; rintro e w1 ⟨rfl, hC1⟩))
  go_loopw [4, 5, 6, 14] (fun n b a i wr => ∃ k best at_ : Nat, k ≤ l.length ∧ i = .int .i64 k ∧ n = .int .i64 (load (l.take k)) ∧ b = .int .i64 best ∧ a = .int .i64 at_ ∧ best ≤ 1048576 ∧ at_ ≤ 1000 ∧ ((k ≤ 1 ∧ best = 1048576 ∧ at_ = 0) ∨ (1 ≤ at_ ∧ at_ < k ∧ best = dst l at_ ∧ ∀ i, 1 ≤ i → i < k → dst l at_ ≤ dst l i)) ∧ Chg [] w wr) (fun _ _ _ i _ => l.length - (intOf i).toNat)
  case atStart => exact ⟨0, 1048576, 0, by omega, rfl, rfl, rfl, rfl, by omega, by omega, .inl ⟨by omega, rfl, rfl⟩, hC1⟩
  case round =>
    obtain ⟨k, best, at_, hk, rfl, rfl, rfl, rfl, hb, ha, hcase, hC⟩ := hrel
    have hldk := load_take l k
    have hldk2 := load_take l (k + 1)
    by_cases hlt : k < l.length
    · have hS2 := hS.ext hC
      obtain ⟨s, o, rfl, hs, hx'⟩ := hS2.at_ (by omega)
      obtain ⟨x, hxk⟩ : ∃ x, l[k]? = some x := ⟨_, List.getElem?_eq_getElem hlt⟩
      obtain ⟨g1, g2⟩ := prs_get l k x hxk
      have d1 := hx' (k * 2) (by omega)
      have d2 := hx' (k * 2 + 1) (by omega)
      rw [g1] at d1
      rw [g2, ← Nat.add_assoc] at d2
      obtain ⟨o1, o2, o3⟩ := hO x (List.mem_of_getElem? hxk)
      have htk : load (l.take (k + 1)) = load (l.take k) + costP x := by rw [List.take_add_one, hxk, load_app, ← load_one]; rfl
      have hdk : dst l k = ((2 * (load (l.take k) : Int)) - (load l : Int)).natAbs := rfl
      clear hx' hS2
      go_wp2_with (first
        | (go_at_call 176; refine (cost_w x _ (by omega) (by omega)).mono ?_; rintro e w5 ⟨rfl, rfl⟩))
      · go_roundw
        case rel =>
          refine ⟨k + 1, dst l k, k, by omega, by go_num, by rw [htk]; go_num, by congr 1; omega, rfl, by omega, by omega, .inr ⟨by omega, by omega, rfl, fun i h1 h2 => ?_⟩, hC.alloc _⟩
          by_cases hik : i = k
          · rw [hik]; exact Nat.le_refl _
          · rcases hcase with ⟨h3, _⟩ | ⟨_, _, h5, h6⟩
            · omega
            · have := h6 i h1 (by omega)
              omega
        case measure => simp [intOf]; omega
      · go_roundw
        case rel =>
          refine ⟨k + 1, best, at_, by omega, by go_num, by rw [htk]; go_num, rfl, rfl, hb, ha, ?_, hC.alloc _⟩
          rcases hcase with ⟨h3, h4, _⟩ | ⟨h3, h4, h5, h6⟩
          · omega
          · refine .inr ⟨h3, by omega, h5, fun i h1 h2 => ?_⟩
            by_cases hik : i = k
            · rw [hik]; omega
            · exact h6 i h1 (by omega)
        case measure => simp [intOf]; omega
      · go_roundw
        case rel =>
          refine ⟨k + 1, best, at_, by omega, by go_num, by rw [htk]; go_num, rfl, rfl, hb, ha, ?_, hC.alloc _⟩
          rcases hcase with ⟨h3, h4, h5⟩ | ⟨h3, h4, h5, h6⟩
          · exact .inl ⟨by omega, h4, h5⟩
          · omega
        case measure => simp [intOf]; omega
    · obtain rfl : k = l.length := by omega
      go_wp2
      go_ret
      rcases hcase with ⟨h, _⟩ | ⟨h1, h3, _, h4⟩
      · omega
      · exact ⟨at_, rfl, ⟨h1, h3, h4⟩, hC⟩

end Go.Proofs.YtpcaadipejnllaaGreatDoor

/- Parts of a tree. -/
set_option linter.unusedVariables false
set_option linter.unusedSimpArgs false
namespace Go.Proofs.YtpcaadipejnllaaGreatDoor
open Go.RowKit

theorem load72 {W : World} {b : Nat} {pg : List Nat} (hB : Blk W b 72 (nums pg)) (hl : pg.length = 128) : (Instr.loadAt 72 (.pointer (some ⟨b, 0, none⟩))).run Tryz.prog W = .ok (.agg (nums pg)) W := by
  have h := run_loadAt_mid (P := Tryz.prog) W b 0 72 (nums pg).toList _ (fun j v hv => by rw [Nat.zero_add, hB.cell, ← Array.getElem?_toList]; exact hv) Tryz.underlying72 rfl (by
    rw [Array.length_toList, nums_size, hl]; kernel_rfl)
  rwa [Array.toArray_toList] at h

theorem op_store_blk {P : Program} {o : Oper} {a : Act} {w : World} {K : Act → World → Prop} {Q : Exit → Act → World → Prop} (ty : TypeId) (x y : Operand) (ho : o.op = .store ty x y)
    (g : Nat) (hx : a.eval x = .pointer (some ⟨g, 0, none⟩)) (cs' : Array Value) (hy : a.eval y = .agg cs') (t : TypeId) (cs : Array Value) (hg : Blk w g t cs)
    (hi : (P.info? ty).map (·.size) = some cs'.size) (hs : cs.size = cs'.size) (h1 : cs'.all (·.oneCell') = true)
    (h : ∀ w', Chg [g] w w' → w'.heap.size = w.heap.size → Blk w' g t cs' → K (a.put o.dst undef) w') : Oper.wp P o a w K Q := by
  have hr := run_storeVar_row (P := P) w g t ty cs cs' hg hi hs h1
  unfold Oper.wp execOp
  simp only [ho, hx, hy, Instr.storeAt, Instr.sureAddr, Sem.run_bind, Sem.run_pure, Result.andThen_ok, hr]
  refine h _ ⟨rfl, rfl, rfl, by simp, fun k hk hn => ?_⟩ (by simp) ?_
  · exact setRow_other w g k cs' (by simpa using hn)
  · exact setRow_heap w g cs _ t _ hg

/-- A part as it lies in cells. -/
def partA (n : Nat) (g : PG) (v : Value) : Array Value := #[.int .i64 n, .int .i64 g.lvl, .string g.low, .string g.high, .int .i64 g.next, v]

set_option maxRecDepth 100000 in
set_option maxHeartbeats 1000000 in
theorem partof_w (n : Nat) (pg : List Nat) (g : PG) (w : World) (hP : IsPage pg g) :
    Calls Tryz.prog 115 #[.int .i64 n, .agg (nums pg)] w fun e w' => ∃ v, e = .returned (.agg (partA n g v)) ∧ w'.ownsRow w.heap.size 93 2 v g.l.length (prs g.l) ∧ Chg [] w w' := by
  have hsz : (nums pg).size = 128 := by rw [nums_size]; exact hP.head.len
  have hl := hP.head.len
  have hB0 : Blk (w.alloc (.cells (nums pg) 72)) w.heap.size 72 (nums pg) := Blk.new w 72 (nums pg)
  go_enter Tryz.func115, Tryz.ntmps115
  go_wp2_with (first
    | (refine wpList_load_row rfl 72 (.tmp 3) rfl w.heap.size rfl 72 (nums pg) (0, 0) _ hB1 Tryz.underlying72 rfl (hsz ▸ (by kernel_rfl)) ?_)
    | (refine wpList_load_row rfl 72 (.tmp 3) rfl w.heap.size rfl 72 (nums pg) (0, 0) _ (hB0.alloc _) Tryz.underlying72 rfl (hsz ▸ (by kernel_rfl)) ?_)
    | (go_at_call 145; refine (fences_w pg g _ hP).mono ?_; rintro e w1 ⟨rfl, hC1⟩; have hB1 := (hB0.alloc _).ext hC1; have hR1 : Blk w1 (w.heap.size + 1) 199 _ := (Blk.newEq (by simp)).ext hC1; have hCC1 : Chg [] w w1 := (((Chg.refl _ _).alloc _).alloc _).trans hC1)
    | (go_at_call 146; refine (pairs_w pg g _ hP).mono ?_; rintro e w2 ⟨v, rfl, hown, hC2⟩; obtain ⟨A, c, rfl, _, _⟩ := (Sl.own hown).form; have hB2 := hB1.ext hC2; have hR2 := hR1.ext hC2; have hCC2 := hCC1.trans hC2; have hown2 := own_base (b' := w.heap.size) hown hCC1.size))
  have hu72 := Tryz.underlying72
  have hi72 : (Tryz.prog.info? 72).map (·.size) = some (nums pg).toList.length := by rw [Array.length_toList, hsz]; kernel_rfl
  have hS : ∀ W, Chg [w.heap.size + 1] w2 W → W.rangeAt w.heap.size 0 (nums pg).toList ∧ Chg [w.heap.size + 1] w2 W := fun W hW => ⟨fun j v hv => by rw [Nat.zero_add, (hB2.chg hW (by simp)).cell, ← Array.getElem?_toList]; exact hv, hW⟩
  refine wp_region_held_drew (S := fun W => W.rangeAt w.heap.size 0 (nums pg).toList ∧ Chg [w.heap.size + 1] w2 W) (by kernel_rfl) (hS _ ((Chg.refl [w.heap.size + 1] w2).drew)) (fun hH => ?_)
  refine wpAnyH_take (i := 0) (v := .int .i64 n) rfl (by kernel_rfl) (by kernel_rfl) (by kernel_rfl) (fun _ _ _ h => h) (Or.inl ⟨by rfl, fun w' hw' => by go_simp⟩) hH ?_
  try simp only [Act.put, List.setIfInBounds_toArray, List.set_cons_zero, List.set_cons_succ]
  refine wpAnyH_take (i := 1) rfl (by kernel_rfl) (by kernel_rfl) (by kernel_rfl) (fun _ _ _ h => h) (yieldsIf_load_mid (by rfl) _ _ rfl _ _ rfl (nums pg).toList _ (fun w' hw' => hw'.1) hu72 rfl hi72) hH ?_
  try simp only [Act.put, List.setIfInBounds_toArray, List.set_cons_zero, List.set_cons_succ]
  refine wpAnyH_take (i := 3) (v := .string g.low) rfl (by kernel_rfl) (by kernel_rfl) (by kernel_rfl) (fun _ _ _ h => h) (Or.inl ⟨by rfl, fun w' hw' => by go_simp⟩) hH ?_
  try simp only [Act.put, List.setIfInBounds_toArray, List.set_cons_zero, List.set_cons_succ]
  refine wpAnyH_take (i := 4) (v := .string g.high) rfl (by kernel_rfl) (by kernel_rfl) (by kernel_rfl) (fun _ _ _ h => h) (Or.inl ⟨by rfl, fun w' hw' => by go_simp⟩) hH ?_
  try simp only [Act.put, List.setIfInBounds_toArray, List.set_cons_zero, List.set_cons_succ]
  refine wpAnyH_take (i := 5) rfl (by kernel_rfl) (by kernel_rfl) (by kernel_rfl) (fun _ _ _ h => h) (yieldsIf_load_mid (by rfl) _ _ rfl _ _ rfl (nums pg).toList _ (fun w' hw' => hw'.1) hu72 rfl hi72) hH ?_
  try simp only [Act.put, List.setIfInBounds_toArray, List.set_cons_zero, List.set_cons_succ]
  refine wpAnyH_take (i := 7) (v := .slice A g.l.length c) rfl (by kernel_rfl) (by kernel_rfl) (by kernel_rfl) (fun _ _ _ h => h) (Or.inl ⟨by rfl, fun w' hw' => by go_simp⟩) hH ?_
  try simp only [Act.put, List.setIfInBounds_toArray, List.set_cons_zero, List.set_cons_succ]
  refine wpAnyH_ready (rs := [2]) (by kernel_rfl) (by simp) ?_
  refine AllReadyH.cons rfl (fun K hK => ?_) AllReadyH.nil
  go_simp
  refine (level_w pg g _ hP).mono ?_
  rintro e w3 ⟨rfl, hC3⟩
  refine hK.out _ _ (hS _ (((Chg.refl [w.heap.size + 1] w2).drew).nil hC3)) (fun hH => ?_)
  clear hK K
  try simp only [Act.put, List.setIfInBounds_toArray, List.set_cons_zero, List.set_cons_succ]
  refine wpAnyH_ready (rs := [6]) (by kernel_rfl) (by simp) ?_
  refine AllReadyH.cons rfl (fun K hK => ?_) AllReadyH.nil
  go_simp
  refine (next_w pg g _ hP).mono ?_
  rintro e w4 ⟨rfl, hC4⟩
  refine hK.out _ _ (hS _ ((((Chg.refl [w.heap.size + 1] w2).drew).nil hC3).nil hC4)) (fun hH => ?_)
  clear hK K
  try simp only [Act.put, List.setIfInBounds_toArray, List.set_cons_zero, List.set_cons_succ]
  refine wpAnyH_take (i := 8) (v := .agg (partA n g (.slice A g.l.length c))) rfl (by kernel_rfl) (by kernel_rfl) (by kernel_rfl) (fun _ _ _ h => h) (Or.inl ⟨by rfl, fun w' hw' => by go_simp; rfl⟩) hH ?_
  simp only [List.getElem_toArray, List.getElem_cons_succ, List.getElem_cons_zero, Act.put, List.setIfInBounds_toArray, List.set_cons_zero, List.set_cons_succ]
  have hR4 := (hR2.drew.ext hC3).ext hC4
  refine wpAnyH_ready (rs := [9]) (by kernel_rfl) (by simp) ?_
  refine AllReadyH.cons rfl (fun K hK => ?_) AllReadyH.nil
  rw [if_pos (by rfl)]
  refine op_store_blk 199 _ _ rfl (w.heap.size + 1) rfl (partA n g (.slice A g.l.length c)) rfl 199 _ hR4 (by kernel_rfl) rfl (by simp [partA, Value.oneCell']) ?_
  intro w5 hC5 hs5 hB5
  refine hK.out _ _ (hS _ (((((Chg.refl [w.heap.size + 1] w2).drew).nil hC3).nil hC4).trans hC5)) (fun hH => ?_)
  clear hK K
  simp only [List.getElem_toArray, List.getElem_cons_succ, List.getElem_cons_zero, Act.put, List.setIfInBounds_toArray, List.set_cons_zero, List.set_cons_succ]
  refine wpAnyH_done (by kernel_rfl) ?_ _
  go_wp2
  refine bodyPost_ret (res_row rfl _ hB5 rfl Tryz.underlying199 rfl (by kernel_rfl)) rfl ⟨_, rfl, ?_, (((hCC2.drew).nil hC3).nil hC4).on hC5 (fun i hi => .inr (by simp at hi; omega))⟩
  have ho4 := own_ext (own_ext (own_ext hown2 ((Chg.refl [] w2).drew)) hC3) hC4
  exact own_chg ho4 hC5 (fun q hq => by have := own_ne ho4 hR4 (by decide) hq; simpa using this)

end Go.Proofs.YtpcaadipejnllaaGreatDoor

/- A tree's work: images. -/
set_option linter.unusedVariables false
set_option linter.unusedSimpArgs false
namespace Go.Proofs.YtpcaadipejnllaaGreatDoor
open Go.RowKit

structure PG.Ok (g : PG) : Prop where
  lvl5 : g.lvl ≤ 5
  low24 : g.low.size ≤ 24
  high24 : g.high.size ≤ 24
  ord : g.high = ⟨#[]⟩ ∨ (g.high ≠ ⟨#[]⟩ ∧ cmpS g.low g.high < 0)
  nx : g.next ≤ 511
  l : OkL g.lvl g.l

/-- The work on an arena, without a fault so far. -/
def Wk (w : World) (wb ba : Nat) : Prop := Blk w wb 193 #[.pointer (some ⟨ba, 0, none⟩), .int .i64 0]

set_option maxRecDepth 100000 in
set_option maxHeartbeats 1000000 in
theorem image_w (wb ba n : Nat) (g : PG) (v : Value) (w : World) (hW : Wk w wb ba) (hS : Sl w 2 v g.l.length (prs g.l)) (hvb : ∀ k, v.ownBlock = some k → k < w.heap.size) (hg : g.Ok) :
    Calls Tryz.prog 179 #[.pointer (some ⟨wb, 0, none⟩), .agg (partA n g v)] w fun e w' => ∃ pg, e = .returned (.agg (nums pg)) ∧ IsPage pg g ∧ Wk w' wb ba ∧ Chg [wb] w w' := by
  obtain ⟨A, c, rfl, _, _⟩ := hS.form
  have hwl := Blk.lt hW
  have hp : partA n g (.slice A g.l.length c) = #[.int .i64 n, .int .i64 g.lvl, .string g.low, .string g.high, .int .i64 g.next, .slice A g.l.length c] := rfl
  rw [hp]
  clear hp
  go_enter Tryz.func179, Tryz.ntmps179
  go_wp2_with (first
    | (go_at_call 183; refine (of_w g.lvl g.low g.high g.next g.l _ _ hg.lvl5 hg.low24 hg.high24 hg.ord hg.nx hg.l ((hS.ext ((Chg.refl _ _).alloc _)).ext ((Chg.refl _ _).alloc _)) (fun k hk => by have := hvb k hk; simp; omega)).mono ?_; rintro e w1 ⟨pg, rfl, hH, hBd, hC1⟩; have hsz : (nums pg).size = 128 := (by rw [nums_size]; exact hH.len); have hone : (nums pg).all (·.oneCell') = true := nums_one _; have hW1 : Blk w1 wb 193 _ := ((Blk.alloc hW _).alloc _).ext hC1; have hCC1 : Chg [] w w1 := (((Chg.refl _ _).alloc _).alloc _).trans hC1; have hR1 : Blk w1 (w.heap.size + 1) 72 (nums z128) := (Blk.newEq (by simp)).ext hC1; have hs1 := hCC1.size)
    | (refine wpList_store_blk rfl 72 (.tmp 5) (.tmp 19) rfl w1.heap.size rfl (nums pg) rfl 72 _ (Blk.new w1 72 _) (hsz ▸ (by kernel_rfl)) (by rw [hsz]; rfl) hone ?_; intro w2 hC2 hs2 hB2; have hW2 := (Blk.alloc hW1 _).chg hC2 (by simp; have := Blk.lt hW1; omega); have hR2 := (hR1.alloc _).chg hC2 (by simp; have := hR1.lt; omega); have hCC2 := (hCC1.alloc _).on hC2 (fun i hi => .inr (by simp at hi; omega)); have cw := hW2.cell 1; have fw := hW2.frozen 1; have hs2' : w2.heap.size = w1.heap.size + 1 := (by rw [hs2]; simp); have hw1l := Blk.lt hW1; have hrl := hR1.lt)
    | (refine wpList_load_row rfl 72 (.tmp 5) rfl w1.heap.size rfl 72 (nums pg) (0, 0) _ (hB2.far (by simp; omega) _) Tryz.underlying72 rfl (hsz ▸ (by kernel_rfl)) ?_)
    | (refine wpList_store_blk rfl 72 (.tmp 4) (.tmp 30) rfl (w.heap.size + 1) rfl (nums pg) rfl 72 _ (hR2.far (by simp; omega) _) (hsz ▸ (by kernel_rfl)) (by rw [hsz, nums_size, z128_len]) hone ?_; intro w3 hC3 hs3 hB3))
  have hW3 := (Blk.setEq (i := 1) (u := .int .i64 0) hW2 rfl).chg hC3 (by simp; omega)
  refine bodyPost_ret (res_row rfl _ hB3 rfl Tryz.underlying72 rfl (hsz ▸ (by kernel_rfl))) rfl ⟨pg, rfl, ⟨hH, hBd, hg.l, hg.lvl5, hg.nx⟩, hW3, ?_⟩
  exact ((hCC2.mono (S := [wb]) (by simp)).set ⟨wb, 1, none⟩ (by simp) _).on hC3 (fun i hi => .inr (by simp at hi; omega))

end Go.Proofs.YtpcaadipejnllaaGreatDoor

/- A tree's work: parts written. -/
set_option linter.unusedVariables false
set_option linter.unusedSimpArgs false
namespace Go.Proofs.YtpcaadipejnllaaGreatDoor
open Go.RowKit

/-- The work and its arena. -/
structure WA (w : World) (wb ba bm bw fr rt : Nat) (pgs : Nat → List Nat) : Prop where
  wk : Wk w wb ba
  ar : ArS w ba bm bw fr rt pgs
  na : wb ≠ ba
  nm : wb ≠ bm
  nw : wb ≠ bw

set_option maxRecDepth 100000 in
set_option maxHeartbeats 1000000 in
theorem twrite_w (wb ba bm bw fr rt : Nat) (pgs : Nat → List Nat) (n : Nat) (g : PG) (v : Value) (w : World) (hW : WA w wb ba bm bw fr rt pgs) (hS : Sl w 2 v g.l.length (prs g.l)) (hvb : ∀ k, v.ownBlock = some k → k < w.heap.size) (hg : g.Ok)
    (h0 : 1 ≤ n) (h1 : n ≤ 40) (hu : usedB pgs n = true) (hr : rt ≤ 40) :
    Calls Tryz.prog 151 #[.pointer (some ⟨wb, 0, none⟩), .agg (partA n g v)] w fun e w' => ∃ pg, e = .returned (.tuple #[]) ∧ IsPage pg g ∧ WA w' wb ba bm bw fr rt (upd pgs n pg) ∧ Chg [wb, bw] w w' := by
  have hlt := hW.ar.lt
  have hwl := Blk.lt hW.wk
  have hB0 := Blk.new w 199 (partA n g v)
  go_enter Tryz.func151, Tryz.ntmps151
  go_wp2_with (first
    | (refine wpList_load_row rfl 199 (.tmp 3) rfl w.heap.size rfl 199 (partA n g v) (0, 0) _ hB0 Tryz.underlying199 rfl (by kernel_rfl) ?_)
    | (go_at_call 179; refine (image_w wb ba n g v _ (Blk.alloc hW.wk _) (hS.ext ((Chg.refl _ _).alloc _)) (fun k hk => by have := hvb k hk; simp; omega) hg).mono ?_; rintro e w1 ⟨pg, rfl, hP, hW1, hC1⟩; have hsz : (nums pg).size = 128 := (by rw [nums_size]; exact hP.head.len); have hone : (nums pg).all (·.oneCell') = true := nums_one _; have hCC1 : Chg [wb] w w1 := (((Chg.refl _ _).alloc _)).trans hC1; have hP1 := hB0.chg hC1 (by simp; omega); have hA1 := hW.ar.chg hCC1 (by simpa using hW.na.symm) (by simpa using hW.nm.symm) (by simpa using hW.nw.symm); have hs1 := hCC1.size)
    | (refine wpList_store_blk rfl 72 (.tmp 4) (.tmp 7) rfl w1.heap.size rfl (nums pg) rfl 72 _ (Blk.new w1 72 _) (hsz ▸ (by kernel_rfl)) (by rw [hsz]; rfl) hone ?_; intro w2 hC2 hs2 hB2; have hCC2 := (hCC1.alloc _).on hC2 (fun i hi => .inr (by simp at hi; omega)); have hlt1 := hA1.lt; have hwl1 := Blk.lt hW1; have hpl1 := hP1.lt; have hA2 := ((hA1.ext ((Chg.refl _ _).alloc _)).chg hC2 (by simp; omega) (by simp; omega) (by simp; omega)); have hW2 : Blk w2 wb 193 _ := (Blk.alloc hW1 _).chg hC2 (by simp; omega); have hP2 := (hP1.alloc _).chg hC2 (by simp; omega); have cw1 := hW2.cell 1; have hs2' : w2.heap.size = w1.heap.size + 1 := (by rw [hs2]; simp)))
  have hu72 := Tryz.underlying72
  have hi72 : (Tryz.prog.info? 72).map (·.size) = some (nums pg).toList.length := by rw [Array.length_toList, hsz]; kernel_rfl
  have hS : ∀ W, (Blk W wb 193 #[.pointer (some ⟨ba, 0, none⟩), .int .i64 0] ∧ Blk W w.heap.size 199 (partA n g v) ∧ Blk W w1.heap.size 72 (nums pg) ∧ Chg [wb, bw] w2 W) →
      W.cell? ⟨wb, 0, none⟩ = some (.pointer (some ⟨ba, 0, none⟩)) ∧ W.cell? ⟨wb, 1, none⟩ = some (.int .i64 0) ∧ W.frozen? ⟨wb, 1, none⟩ = false ∧ W.cell? ⟨w.heap.size, 0, none⟩ = some (.int .i64 n) ∧ W.rangeAt w1.heap.size 0 (nums pg).toList ∧
      (Blk W wb 193 #[.pointer (some ⟨ba, 0, none⟩), .int .i64 0] ∧ Blk W w.heap.size 199 (partA n g v) ∧ Blk W w1.heap.size 72 (nums pg) ∧ Chg [wb, bw] w2 W) := fun W hW =>
    ⟨by rw [hW.1.cell]; rfl, by rw [hW.1.cell]; rfl, hW.1.frozen 1, by rw [hW.2.1.cell]; rfl, fun j u hv => by rw [Nat.zero_add, hW.2.2.1.cell, ← Array.getElem?_toList]; exact hv, hW⟩
  have hK : ∀ W W', (Blk W wb 193 #[.pointer (some ⟨ba, 0, none⟩), .int .i64 0] ∧ Blk W w.heap.size 199 (partA n g v) ∧ Blk W w1.heap.size 72 (nums pg) ∧ Chg [wb, bw] w2 W) → Chg [bw] W W' → (Blk W' wb 193 #[.pointer (some ⟨ba, 0, none⟩), .int .i64 0] ∧ Blk W' w.heap.size 199 (partA n g v) ∧ Blk W' w1.heap.size 72 (nums pg) ∧ Chg [wb, bw] w2 W') := fun W W' h hC =>
    ⟨h.1.chg hC (by simpa using ‹WA w wb ba bm bw fr rt pgs›.nw), h.2.1.chg hC (by simp; omega), h.2.2.1.chg hC (by simp; omega), h.2.2.2.trans (hC.mono (by simp))⟩
  have hT : ∀ W, (Blk W wb 193 #[.pointer (some ⟨ba, 0, none⟩), .int .i64 0] ∧ Blk W w.heap.size 199 (partA n g v) ∧ Blk W w1.heap.size 72 (nums pg) ∧ Chg [wb, bw] w2 W) → (Blk (W.setCell ⟨wb, 1, none⟩ (.int .i64 0)) wb 193 #[.pointer (some ⟨ba, 0, none⟩), .int .i64 0] ∧ Blk (W.setCell ⟨wb, 1, none⟩ (.int .i64 0)) w.heap.size 199 (partA n g v) ∧ Blk (W.setCell ⟨wb, 1, none⟩ (.int .i64 0)) w1.heap.size 72 (nums pg) ∧ Chg [wb, bw] w2 (W.setCell ⟨wb, 1, none⟩ (.int .i64 0))) := fun W h =>
    ⟨Blk.setEq h.1 rfl, h.2.1.far (by simp; omega) _, h.2.2.1.far (by simp; omega) _, h.2.2.2.set _ (by simp) _⟩
  have hI0 : Blk w2.drew wb 193 #[.pointer (some ⟨ba, 0, none⟩), .int .i64 0] ∧ Blk w2.drew w.heap.size 199 (partA n g v) ∧ Blk w2.drew w1.heap.size 72 (nums pg) ∧ Chg [wb, bw] w2 w2.drew := ⟨hW2.drew, hP2.drew, hB2.drew, (Chg.refl _ _).drew⟩
  go_region_held3 (fun W => W.cell? ⟨wb, 0, none⟩ = some (.pointer (some ⟨ba, 0, none⟩)) ∧ W.cell? ⟨wb, 1, none⟩ = some (.int .i64 0) ∧ W.frozen? ⟨wb, 1, none⟩ = false ∧ W.cell? ⟨w.heap.size, 0, none⟩ = some (.int .i64 n) ∧ W.rangeAt w1.heap.size 0 (nums pg).toList ∧ (Blk W wb 193 #[.pointer (some ⟨ba, 0, none⟩), .int .i64 0] ∧ Blk W w.heap.size 199 (partA n g v) ∧ Blk W w1.heap.size 72 (nums pg) ∧ Chg [wb, bw] w2 W)) (first | exact hS _ hI0 | exact hS _ (hK _ _ hI0 (by assumption)) | exact hS _ (hT _ (hK _ _ hI0 (by assumption)))) (first | (go_at_call 180; (try rw [Array.toArray_toList]); refine (write_s ba bm bw fr rt pgs n pg _ (hA2.ext ((Chg.refl _ _).drew)) hP.is hP.valid (by omega) (by omega) (by simpa using hu) hr).mono ?_; rintro e w3 ⟨rfl, hC3, hA3⟩))
  go_wp2
  go_end0
  rw [Int.toNat_natCast] at hA3
  have hI3 := hK _ _ hI0 hC3
  refine ⟨pg, rfl, hP, ⟨(hT _ hI3).1, hA3.chg (((Chg.refl [wb] w3)).set ⟨wb, 1, none⟩ (by simp) _) (by simpa using hW.na.symm) (by simpa using hW.nm.symm) (by simpa using hW.nw.symm), hW.na, hW.nm, hW.nw⟩, ?_⟩
  exact (hCC2.mono (by simp)).trans (hT _ hI3).2.2.2

end Go.Proofs.YtpcaadipejnllaaGreatDoor

/- A tree's work: pages given back, roots set. -/
set_option linter.unusedVariables false
set_option linter.unusedSimpArgs false
namespace Go.Proofs.YtpcaadipejnllaaGreatDoor
open Go.RowKit

set_option maxRecDepth 100000 in
set_option maxHeartbeats 1000000 in
theorem trelease_w (wb ba bm bw fr rt : Nat) (pgs : Nat → List Nat) (n : Nat) (w : World) (hW : WA w wb ba bm bw fr rt pgs) (hf : fr ≤ 40)
    (h0 : 1 ≤ n) (h1 : n ≤ 40) (hu : usedB pgs n = true) (hr : rt ≤ 40) (hne : rt ≠ n) :
    Calls Tryz.prog 153 #[.pointer (some ⟨wb, 0, none⟩), .int .i64 n] w fun e w' => e = .returned (.tuple #[]) ∧ WA w' wb ba bm bw n rt (upd pgs n (freePg fr)) ∧ Chg [wb, bw] w w' := by
  have hlt := hW.ar.lt
  have hwl := Blk.lt hW.wk
  have hw0 : Blk w wb 193 #[.pointer (some ⟨ba, 0, none⟩), .int .i64 0] := hW.wk
  have cw0 := hw0.cell 0
  have cw1 := hw0.cell 1
  go_enter Tryz.func153, Tryz.ntmps153
  go_wp2_with (go_at_call 182; refine (release_s ba bm bw fr rt pgs n _ hW.ar hf (by omega) (by omega) (by simpa using hu) hr (by omega)).mono ?_; rintro e w3 ⟨rfl, hC3, hA3⟩; have hw3 := hw0.chg hC3 (by simpa using hW.nw); have dw0 := hw3.cell 0; have dw1 := hw3.cell 1; have fw1 := hw3.frozen 1)
  go_end0
  have hC4 : Chg [wb, bw] w (w3.setCell ⟨wb, 1, none⟩ (.int .i64 0)) := (hC3.mono (by simp)).set _ (by simp) _
  rw [Int.toNat_natCast] at hA3
  exact ⟨rfl, ⟨Blk.setEq hw3 rfl, hA3.chg (((Chg.refl [wb] w3)).set ⟨wb, 1, none⟩ (by simp) _) (by simpa using hW.na.symm) (by simpa using hW.nm.symm) (by simpa using hW.nw.symm), hW.na, hW.nm, hW.nw⟩, hC4⟩

set_option maxRecDepth 100000 in
set_option maxHeartbeats 1000000 in
theorem troot_w (wb ba bm bw fr rt : Nat) (pgs : Nat → List Nat) (n : Nat) (w : World) (hW : WA w wb ba bm bw fr rt pgs)
    (h0 : 1 ≤ n) (h1 : n ≤ 40) (hu : usedB pgs n = true) (hr : rt ≤ 40) :
    Calls Tryz.prog 156 #[.pointer (some ⟨wb, 0, none⟩), .int .i64 n] w fun e w' => e = .returned (.tuple #[]) ∧ WA w' wb ba bm bw fr n pgs ∧ Chg [wb, bw] w w' := by
  have hlt := hW.ar.lt
  have hwl := Blk.lt hW.wk
  have hw0 : Blk w wb 193 #[.pointer (some ⟨ba, 0, none⟩), .int .i64 0] := hW.wk
  have cw0 := hw0.cell 0
  have cw1 := hw0.cell 1
  go_enter Tryz.func156, Tryz.ntmps156
  go_wp2_with (go_at_call 26; refine (setroot_s ba bm bw fr rt pgs n _ hW.ar (by omega) (by omega) (by simpa using hu) hr).mono ?_; rintro e w3 ⟨rfl, hC3, hA3⟩; have hw3 := hw0.chg hC3 (by simpa using hW.nw); have dw0 := hw3.cell 0; have dw1 := hw3.cell 1; have fw1 := hw3.frozen 1)
  go_end0
  have hC4 : Chg [wb, bw] w (w3.setCell ⟨wb, 1, none⟩ (.int .i64 0)) := (hC3.mono (by simp)).set _ (by simp) _
  rw [Int.toNat_natCast] at hA3
  exact ⟨rfl, ⟨Blk.setEq hw3 rfl, hA3.chg (((Chg.refl [wb] w3)).set ⟨wb, 1, none⟩ (by simp) _) (by simpa using hW.na.symm) (by simpa using hW.nm.symm) (by simpa using hW.nw.symm), hW.na, hW.nm, hW.nw⟩, hC4⟩

set_option maxRecDepth 100000 in
set_option maxHeartbeats 1000000 in
theorem tvalue_w (wb ba bm bw fr rt : Nat) (pgs : Nat → List Nat) (n : Nat) (w : World) (hW : WA w wb ba bm bw fr rt pgs) (h0 : 1 ≤ n) (h1 : n ≤ 511) :
    Calls Tryz.prog 150 #[.pointer (some ⟨wb, 0, none⟩), .int .i64 n] w fun e w' => e = .returned (.string (numS n)) ∧ WA w' wb ba bm bw fr rt pgs ∧ Chg [wb] w w' := by
  have hlt := hW.ar.lt
  have hwl := Blk.lt hW.wk
  go_enter Tryz.func150, Tryz.ntmps150
  go_wp2_with (go_at_call 178; refine (number_w n _ h0 h1).mono ?_; rintro e w1 ⟨rfl, hC1⟩; have hw1 : Blk w1 wb 193 _ := Blk.ext hW.wk hC1; have cw0 := hw1.cell 0; have cw1 := hw1.cell 1; have fw1 := hw1.frozen 1)
  go_ret
  have hC2 : Chg [wb] w (w1.setCell ⟨wb, 1, none⟩ (.int .i64 0)) := (hC1.mono (by simp)).set _ (by simp) _
  exact ⟨rfl, ⟨Blk.setEq hw1 rfl, hW.ar.chg hC2 (by simpa using hW.na.symm) (by simpa using hW.nm.symm) (by simpa using hW.nw.symm), hW.na, hW.nm, hW.nw⟩, hC2⟩

end Go.Proofs.YtpcaadipejnllaaGreatDoor
