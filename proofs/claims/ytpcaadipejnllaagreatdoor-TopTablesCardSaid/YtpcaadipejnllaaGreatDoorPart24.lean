/- The tables and rows of the law. -/
import Derived.Test.YtpcaadipejnllaaGreatDoorPart21
import Derived.Test.YtpcaadipejnllaaGreatDoorPart17
import Derived.Test.YtpcaadipejnllaaGreatDoorPart02
import Derived.Test.YtpcaadipejnllaaGreatDoorPart22
import Derived.Test.YtpcaadipejnllaaGreatDoorPart14
import Derived.Test.YtpcaadipejnllaaGreatDoorPart13
import Derived.Test.YtpcaadipejnllaaGreatDoorPart09

set_option linter.unusedVariables false
set_option linter.unusedSimpArgs false
namespace Go.Proofs.YtpcaadipejnllaaGreatDoor
open Go.RowKit

theorem own_blk_all {w : World} {b : Nat} {e : TypeId} {n : Nat} {cs : Array Value} (h : Blk w b e cs) (size : Nat) (hs : cs.size = n * size) (hm : n ≤ maxLen) : w.ownsRow b e size (.slice (some ⟨b, 0, none⟩) n n) n cs.toList :=
  ⟨by simpa using hs, .inr ⟨b, n, cs, rfl, Nat.le_refl _, h, Nat.le_refl _, hm, hs, by rw [List.take_of_length_le (by simp [hs])]⟩⟩

set_option maxRecDepth 100000 in
set_option maxHeartbeats 1000000 in
theorem people_w (w : World) : Calls Tryz.prog 7 #[] w fun e w' => ∃ vk vr, e = .returned (.agg (tbV tP vk vr)) ∧ w'.ownsRow w.heap.size 59 1 vk 1 (ints [1]) ∧ w'.ownsRow w.heap.size 59 1 vr 2 (ints [3, 2]) ∧ Chg [] w w' := by
  go_enter Tryz.func7, Tryz.ntmps7
  go_wp2
  refine bodyPost_ret (res_row rfl _ (Blk.alloc (Blk.alloc (Blk.new _ _ _) _) _) rfl Tryz.underlying37 rfl (by kernel_rfl)) rfl ⟨_, _, rfl, own_base (own_blk_all ((Blk.newEq (g := w.heap.size + 1) (by simp)).alloc _) 1 rfl (by decide)) (by omega), own_base (own_blk_all (Blk.newEq (g := w.heap.size + 1 + 1) (by simp)) 1 rfl (by decide)) (by omega), (((Chg.refl _ _).alloc _).alloc _).alloc _⟩

set_option maxRecDepth 100000 in
set_option maxHeartbeats 1000000 in
theorem towns_w (w : World) : Calls Tryz.prog 8 #[] w fun e w' => ∃ vk vr, e = .returned (.agg (tbV tT vk vr)) ∧ w'.ownsRow w.heap.size 59 1 vk 1 (ints [3]) ∧ w'.ownsRow w.heap.size 59 1 vr 1 (ints [1]) ∧ Chg [] w w' := by
  go_enter Tryz.func8, Tryz.ntmps8
  go_wp2
  refine bodyPost_ret (res_row rfl _ (Blk.alloc (Blk.alloc (Blk.new _ _ _) _) _) rfl Tryz.underlying37 rfl (by kernel_rfl)) rfl ⟨_, _, rfl, own_base (own_blk_all ((Blk.newEq (g := w.heap.size + 1) (by simp)).alloc _) 1 rfl (by decide)) (by omega), own_base (own_blk_all (Blk.newEq (g := w.heap.size + 1 + 1) (by simp)) 1 rfl (by decide)) (by omega), (((Chg.refl _ _).alloc _).alloc _).alloc _⟩

def perC (p : Per) : Array Value := #[.int .u16 p.id, .string p.nm, .int .i16 p.sc]
set_option maxRecDepth 100000 in
set_option maxHeartbeats 1000000 in
theorem row_p (p : Per) (w : World) (hp : p.Ok) : Calls Tryz.prog 9 #[.agg (perC p)] w fun e w' => ∃ v, e = .returned v ∧ w'.ownsRow w.heap.size 62 5 v 3 (cls (rP p)) ∧ Chg [] w w' := by
  obtain ⟨h1, h2, h3⟩ := hp
  have e1 : IntKind.u64.wrap (p.id : Int) = (p.id : Int) := by rw [IntKind.wrap_u64]; omega
  have e2 : IntKind.i64.wrap p.sc = p.sc := by rw [IntKind.wrap_i64]; omega
  have hB := Blk.new w 26 (perC p)
  have c0 : (w.alloc (.cells (perC p) 26)).cell? ⟨w.heap.size, 0, none⟩ = some (.int .u16 p.id) := hB.cell 0
  have c1 : (w.alloc (.cells (perC p) 26)).cell? ⟨w.heap.size, 1, none⟩ = some (.string p.nm) := hB.cell 1
  have c2 : (w.alloc (.cells (perC p) 26)).cell? ⟨w.heap.size, 2, none⟩ = some (.int .i16 p.sc) := hB.cell 2
  go_enter Tryz.func9, Tryz.ntmps9
  go_wp2
  go_ret
  refine ⟨_, rfl, ?_, ((Chg.refl _ _).alloc _).alloc _⟩
  exact own_base (own_blk_all (Blk.newEq (g := w.heap.size + 1) (by simp)) 5 rfl (by decide)) (by omega)

set_option maxRecDepth 100000 in
set_option maxHeartbeats 1000000 in
theorem row_t (p : Per) (w : World) (hp : p.Ok) : Calls Tryz.prog 10 #[.agg (perC p)] w fun e w' => ∃ v, e = .returned v ∧ w'.ownsRow w.heap.size 62 5 v 2 (cls (rT p)) ∧ Chg [] w w' := by
  obtain ⟨h1, h2, h3⟩ := hp
  have e1 : IntKind.u64.wrap (p.id : Int) = (p.id : Int) := by rw [IntKind.wrap_u64]; omega
  have hB := Blk.new w 26 (perC p)
  have c0 : (w.alloc (.cells (perC p) 26)).cell? ⟨w.heap.size, 0, none⟩ = some (.int .u16 p.id) := hB.cell 0
  have c1 : (w.alloc (.cells (perC p) 26)).cell? ⟨w.heap.size, 1, none⟩ = some (.string p.nm) := hB.cell 1
  go_enter Tryz.func10, Tryz.ntmps10
  go_wp2
  go_ret
  refine ⟨_, rfl, ?_, ((Chg.refl _ _).alloc _).alloc _⟩
  exact own_base (own_blk_all (Blk.newEq (g := w.heap.size + 1) (by simp)) 5 rfl (by decide)) (by omega)
end Go.Proofs.YtpcaadipejnllaaGreatDoor

/- The checker: the flaw of a page that is right. -/
set_option linter.unusedVariables false
set_option linter.unusedSimpArgs false
namespace Go.Proofs.YtpcaadipejnllaaGreatDoor
open Go.RowKit

set_option maxRecDepth 100000 in
set_option maxHeartbeats 1000000 in
theorem flaw_leaf (cb ba bm bw fr rt mb N n next : Nat) (pgs : Nat → List Nat) (low high : ByteArray) (l : List Pr) (f : Int → Option Bool) (v : Value) (w : World) (hA : ArS w ba bm bw fr rt pgs) (hB : Blk w cb 172 #[.pointer (some ⟨ba, 0, none⟩), .map (some mb), v]) (hM : MapB w mb N f) (hN : N ≤ 1000) (hf : f n = some false) (h0 : 1 ≤ n) (h1 : n ≤ 40)
    (hP : IsPage (pgs n) ⟨0, low, high, next, l⟩) (hI : PG.Inside ⟨0, low, high, next, l⟩) (hp : 36 ≤ load l) :
    Calls Tryz.prog 163 #[.pointer (some ⟨cb, 0, none⟩), .int .i64 n, .int .i64 0, .string low, .string high, .bool false] w fun e w' => e = .returned (.tuple #[.agg (nums (pgs n)), .int .i64 0]) ∧ MapB w' mb (N + 1) (putB f n true) ∧ Chg [mb] w w' := by
  have hrd : ∀ w, ArS w ba bm bw fr rt pgs → Calls Tryz.prog 129 #[.pointer (some ⟨ba, 0, none⟩), .int .i64 (n : Int)] w fun e w' => e = .returned (.tuple #[.agg (nums (pgs n)), .int .i64 0]) ∧ Chg [] w w' := fun w h => by
    have := read_s ba bm bw fr rt pgs (n : Int) w h (by omega) (by omega)
    simpa using this
  have hky : ∀ w, Calls Tryz.prog 164 #[.agg (nums (pgs n))] w fun e w' => e = .returned (.bool true) ∧ Chg [] w w' := fun w => keys_leaf _ _ w hP hI rfl
  have Hrd := Lib.hid hrd
  have Hky := Lib.hid hky
  have Hf := Lib.hid hf
  clear hrd hky hf
  have hsz : (nums (pgs n)).size = 128 := by rw [nums_size]; exact hP.head.len
  have hone : (nums (pgs n)).all (·.oneCell') = true := nums_one _
  have hwf : (Lit.int .i64 (n : Int)).wf = true := WalkArith.wf_i64 (by omega)
  have hcb := hB.lt
  have hmb := hM.lt
  have hmc := hM.ne hB
  have hpo : decide (load l < 36) = false := decide_eq_false (by omega)
  have c0 : ∀ o, (w.alloc o).cell? ⟨cb, 0, none⟩ = some (.pointer (some ⟨ba, 0, none⟩)) := fun o => (hB.alloc o).cell 0
  go_enter Tryz.func163, Tryz.ntmps163
  go_wp2_with (first
    | (refine wpList_load_rowg (by rfl) 72 (.tmp 14) rfl w1.heap.size rfl 72 (nums (pgs n)) (0, 0) _ hB7 Tryz.underlying72 rfl (hsz ▸ (by kernel_rfl)) ?_)
    | (refine wpList_load_rowg (by rfl) 72 (.tmp 14) rfl w1.heap.size rfl 72 (nums (pgs n)) (0, 0) _ hB6 Tryz.underlying72 rfl (hsz ▸ (by kernel_rfl)) ?_)
    | (refine wpList_load_rowg (by rfl) 72 (.tmp 14) rfl w1.heap.size rfl 72 (nums (pgs n)) (0, 0) _ hB5 Tryz.underlying72 rfl (hsz ▸ (by kernel_rfl)) ?_)
    | (refine wpList_load_rowg (by rfl) 72 (.tmp 14) rfl w1.heap.size rfl 72 (nums (pgs n)) (0, 0) _ hB4 Tryz.underlying72 rfl (hsz ▸ (by kernel_rfl)) ?_)
    | (refine wpList_load_rowg (by rfl) 72 (.tmp 14) rfl w1.heap.size rfl 72 (nums (pgs n)) (0, 0) _ hB3 Tryz.underlying72 rfl (hsz ▸ (by kernel_rfl)) ?_)
    | (refine wpList_load_rowg (by rfl) 72 (.tmp 14) rfl w1.heap.size rfl 72 (nums (pgs n)) (0, 0) _ hB2 Tryz.underlying72 rfl (hsz ▸ (by kernel_rfl)) ?_)
    | (go_at_call 129; refine (Hrd.out _ (hA.ext ((Chg.refl _ _).alloc _))).mono ?_; clear c0; rintro e w1 ⟨rfl, hC1⟩; have hZ1 := (Blk.new w 72 _).ext hC1; have hCC1 : Chg [] w w1 := ((Chg.refl [] w).alloc _).trans hC1; have hs1 := hCC1.size; have hz1 := hZ1.lt)
    | (refine wpList_store_blk rfl 72 (.tmp 14) (.tmp 29) rfl w1.heap.size rfl (nums (pgs n)) rfl 72 _ (Blk.new w1 72 _) (hsz ▸ (by kernel_rfl)) (by rw [hsz]; rfl) hone ?_; intro w2 hC2 hs2 hB2; have hCC2 : Chg [] w w2 := ((hCC1.alloc _).on hC2 (fun i hi => .inr (by simp at hi; omega))); have hM2 := hM.ext hCC2; have c1 := (hB.ext hCC2).cell 1; have hZ2 := (hZ1.alloc _).chg hC2 (by simp; omega))
    | (refine wpList_lookup_b (by rfl) (.tmp 35) (.tmp 36) true rfl mb N f rfl hM2 n rfl hwf (.tuple #[.bool false, .bool true]) (by rw [Hf.out]; rfl) ?_)
    | (refine wpList_mapUpdate_b rfl (.tmp 52) (.tmp 53) (.const (.bool true)) rfl mb N f rfl hM2 (by omega) n true rfl rfl hwf ?_; intro w3 hM3 hC3; have hB3 := hB2.chg hC3 (by simp; omega); have hZ3 := hZ2.chg hC3 (by simp; omega))
    | (go_at_call 145; refine (fences_w (pgs n) _ _ hP).mono ?_; rintro e w4 ⟨rfl, hC4⟩; have hB4 := hB3.ext hC4; have hZ4 := hZ3.ext hC4; have hM4 := hM3.ext hC4)
    | (go_at_call 191; refine (poor_w (pgs n) _ _ hP).mono ?_; rintro e w5 ⟨rfl, hC5⟩; have hB5 := hB4.ext hC5; have hZ5 := hZ4.ext hC5; have hM5 := hM4.ext hC5)
    | (go_at_call 147; refine (level_w (pgs n) _ _ hP).mono ?_; rintro e w6 ⟨rfl, hC6⟩; have hB6 := hB5.ext hC6; have hZ6 := hZ5.ext hC6; have hM6 := hM5.ext hC6)
    | (go_at_call 164; refine (Hky.out _).mono ?_; rintro e w7 ⟨rfl, hC7⟩; have hB7 := hB6.ext hC7; have hZ7 := hZ6.ext hC7; have hM7 := hM6.ext hC7)
    | (refine wpList_store_blk rfl 72 (.tmp 12) (.tmp 111) rfl w.heap.size rfl (nums (pgs n)) rfl 72 _ hZ7 (hsz ▸ (by kernel_rfl)) (by rw [hsz]; rfl) hone ?_; intro w9 hC9 hs9 hB9; have hM9 := hM7.chg hC9 (by simp; omega)))
  refine bodyPost_ret (res_row_tmp rfl _ hB9 rfl rfl Tryz.underlying72 rfl (hsz ▸ (by kernel_rfl))) rfl ⟨rfl, hM9, ?_⟩
  exact (((((((hCC2.mono (by simp)).trans hC3).nil hC4).nil hC5).nil hC6).nil hC7)).on hC9 (fun i hi => .inr (by simp at hi; omega))

set_option maxRecDepth 100000 in
set_option maxHeartbeats 1000000 in
theorem flaw_one (cb ba bm bw fr rt mb N n next : Nat) (pgs : Nat → List Nat) (low high : ByteArray) (l : List Pr) (f : Int → Option Bool) (v : Value) (w : World) (hA : ArS w ba bm bw fr rt pgs) (hB : Blk w cb 172 #[.pointer (some ⟨ba, 0, none⟩), .map (some mb), v]) (hM : MapB w mb N f) (hN : N ≤ 1000) (hf : f n = some false) (h0 : 1 ≤ n) (h1 : n ≤ 40)
    (hP : IsPage (pgs n) ⟨0, low, high, next, l⟩) (hI : PG.Inside ⟨0, low, high, next, l⟩) :
    Calls Tryz.prog 163 #[.pointer (some ⟨cb, 0, none⟩), .int .i64 n, .int .i64 0, .string low, .string high, .bool true] w fun e w' => e = .returned (.tuple #[.agg (nums (pgs n)), .int .i64 0]) ∧ MapB w' mb (N + 1) (putB f n true) ∧ Chg [mb] w w' := by
  have hrd : ∀ w, ArS w ba bm bw fr rt pgs → Calls Tryz.prog 129 #[.pointer (some ⟨ba, 0, none⟩), .int .i64 (n : Int)] w fun e w' => e = .returned (.tuple #[.agg (nums (pgs n)), .int .i64 0]) ∧ Chg [] w w' := fun w h => by
    have := read_s ba bm bw fr rt pgs (n : Int) w h (by omega) (by omega)
    simpa using this
  have hky : ∀ w, Calls Tryz.prog 164 #[.agg (nums (pgs n))] w fun e w' => e = .returned (.bool true) ∧ Chg [] w w' := fun w => keys_leaf _ _ w hP hI rfl
  have Hrd := Lib.hid hrd
  have Hky := Lib.hid hky
  have Hf := Lib.hid hf
  clear hrd hky hf
  have hsz : (nums (pgs n)).size = 128 := by rw [nums_size]; exact hP.head.len
  have hone : (nums (pgs n)).all (·.oneCell') = true := nums_one _
  have hwf : (Lit.int .i64 (n : Int)).wf = true := WalkArith.wf_i64 (by omega)
  have hcb := hB.lt
  have hmb := hM.lt
  have hmc := hM.ne hB
  have c0 : ∀ o, (w.alloc o).cell? ⟨cb, 0, none⟩ = some (.pointer (some ⟨ba, 0, none⟩)) := fun o => (hB.alloc o).cell 0
  go_enter Tryz.func163, Tryz.ntmps163
  go_wp2_with (first
    | (refine wpList_load_rowg (by rfl) 72 (.tmp 14) rfl w1.heap.size rfl 72 (nums (pgs n)) (0, 0) _ hB7 Tryz.underlying72 rfl (hsz ▸ (by kernel_rfl)) ?_)
    | (refine wpList_load_rowg (by rfl) 72 (.tmp 14) rfl w1.heap.size rfl 72 (nums (pgs n)) (0, 0) _ hB6 Tryz.underlying72 rfl (hsz ▸ (by kernel_rfl)) ?_)
    | (refine wpList_load_rowg (by rfl) 72 (.tmp 14) rfl w1.heap.size rfl 72 (nums (pgs n)) (0, 0) _ hB5 Tryz.underlying72 rfl (hsz ▸ (by kernel_rfl)) ?_)
    | (refine wpList_load_rowg (by rfl) 72 (.tmp 14) rfl w1.heap.size rfl 72 (nums (pgs n)) (0, 0) _ hB4 Tryz.underlying72 rfl (hsz ▸ (by kernel_rfl)) ?_)
    | (refine wpList_load_rowg (by rfl) 72 (.tmp 14) rfl w1.heap.size rfl 72 (nums (pgs n)) (0, 0) _ hB3 Tryz.underlying72 rfl (hsz ▸ (by kernel_rfl)) ?_)
    | (refine wpList_load_rowg (by rfl) 72 (.tmp 14) rfl w1.heap.size rfl 72 (nums (pgs n)) (0, 0) _ hB2 Tryz.underlying72 rfl (hsz ▸ (by kernel_rfl)) ?_)
    | (go_at_call 129; refine (Hrd.out _ (hA.ext ((Chg.refl _ _).alloc _))).mono ?_; clear c0; rintro e w1 ⟨rfl, hC1⟩; have hZ1 := (Blk.new w 72 _).ext hC1; have hCC1 : Chg [] w w1 := ((Chg.refl [] w).alloc _).trans hC1; have hs1 := hCC1.size; have hz1 := hZ1.lt)
    | (refine wpList_store_blk rfl 72 (.tmp 14) (.tmp 29) rfl w1.heap.size rfl (nums (pgs n)) rfl 72 _ (Blk.new w1 72 _) (hsz ▸ (by kernel_rfl)) (by rw [hsz]; rfl) hone ?_; intro w2 hC2 hs2 hB2; have hCC2 : Chg [] w w2 := ((hCC1.alloc _).on hC2 (fun i hi => .inr (by simp at hi; omega))); have hM2 := hM.ext hCC2; have c1 := (hB.ext hCC2).cell 1; have hZ2 := (hZ1.alloc _).chg hC2 (by simp; omega))
    | (refine wpList_lookup_b (by rfl) (.tmp 35) (.tmp 36) true rfl mb N f rfl hM2 n rfl hwf (.tuple #[.bool false, .bool true]) (by rw [Hf.out]; rfl) ?_)
    | (refine wpList_mapUpdate_b rfl (.tmp 52) (.tmp 53) (.const (.bool true)) rfl mb N f rfl hM2 (by omega) n true rfl rfl hwf ?_; intro w3 hM3 hC3; have hB3 := hB2.chg hC3 (by simp; omega); have hZ3 := hZ2.chg hC3 (by simp; omega))
    | (go_at_call 145; refine (fences_w (pgs n) _ _ hP).mono ?_; rintro e w4 ⟨rfl, hC4⟩; have hB4 := hB3.ext hC4; have hZ4 := hZ3.ext hC4; have hM4 := hM3.ext hC4)
    | (go_at_call 191; refine (poor_w (pgs n) _ _ hP).mono ?_; rintro e w5 ⟨rfl, hC5⟩; have hB5 := hB4.ext hC5; have hZ5 := hZ4.ext hC5; have hM5 := hM4.ext hC5)
    | (go_at_call 147; refine (level_w (pgs n) _ _ hP).mono ?_; rintro e w6 ⟨rfl, hC6⟩; have hB6 := hB5.ext hC6; have hZ6 := hZ5.ext hC6; have hM6 := hM5.ext hC6)
    | (go_at_call 164; refine (Hky.out _).mono ?_; rintro e w7 ⟨rfl, hC7⟩; have hB7 := hB6.ext hC7; have hZ7 := hZ6.ext hC7; have hM7 := hM6.ext hC7)
    | (refine wpList_store_blk rfl 72 (.tmp 12) (.tmp 111) rfl w.heap.size rfl (nums (pgs n)) rfl 72 _ hZ7 (hsz ▸ (by kernel_rfl)) (by rw [hsz]; rfl) hone ?_; intro w9 hC9 hs9 hB9; have hM9 := hM7.chg hC9 (by simp; omega)))
  refine bodyPost_ret (res_row_tmp rfl _ hB9 rfl rfl Tryz.underlying72 rfl (hsz ▸ (by kernel_rfl))) rfl ⟨rfl, hM9, ?_⟩
  exact (((((((hCC2.mono (by simp)).trans hC3).nil hC4).nil hC5).nil hC6).nil hC7)).on hC9 (fun i hi => .inr (by simp at hi; omega))

set_option maxRecDepth 100000 in
set_option maxHeartbeats 1000000 in
theorem flaw_root (cb ba bm bw fr rt mb N n next : Nat) (pgs : Nat → List Nat) (low high : ByteArray) (l : List Pr) (f : Int → Option Bool) (v : Value) (w : World) (hA : ArS w ba bm bw fr rt pgs) (hB : Blk w cb 172 #[.pointer (some ⟨ba, 0, none⟩), .map (some mb), v]) (hM : MapB w mb N f) (hN : N ≤ 1000) (hf : f n = some false) (h0 : 1 ≤ n) (h1 : n ≤ 40)
    (hP : IsPage (pgs n) ⟨1, low, high, next, l⟩) (hI : PG.Inside ⟨1, low, high, next, l⟩) (x : Pr) (hx : l[0]? = some x) (hlow : x.1 = low) (h2 : 2 ≤ l.length) :
    Calls Tryz.prog 163 #[.pointer (some ⟨cb, 0, none⟩), .int .i64 n, .int .i64 1, .string low, .string high, .bool true] w fun e w' => e = .returned (.tuple #[.agg (nums (pgs n)), .int .i64 0]) ∧ MapB w' mb (N + 1) (putB f n true) ∧ Chg [mb] w w' := by
  have hrd : ∀ w, ArS w ba bm bw fr rt pgs → Calls Tryz.prog 129 #[.pointer (some ⟨ba, 0, none⟩), .int .i64 (n : Int)] w fun e w' => e = .returned (.tuple #[.agg (nums (pgs n)), .int .i64 0]) ∧ Chg [] w w' := fun w h => by
    have := read_s ba bm bw fr rt pgs (n : Int) w h (by omega) (by omega)
    simpa using this
  have hky : ∀ w, Calls Tryz.prog 164 #[.agg (nums (pgs n))] w fun e w' => e = .returned (.bool true) ∧ Chg [] w w' := fun w => keys_inner _ _ x w hP hI (by show 0 < 1; omega) hx hlow
  have Hrd := Lib.hid hrd
  have Hky := Lib.hid hky
  have Hf := Lib.hid hf
  clear hrd hky hf
  have hsz : (nums (pgs n)).size = 128 := by rw [nums_size]; exact hP.head.len
  have hone : (nums (pgs n)).all (·.oneCell') = true := nums_one _
  have hwf : (Lit.int .i64 (n : Int)).wf = true := WalkArith.wf_i64 (by omega)
  have hcb := hB.lt
  have hmb := hM.lt
  have hmc := hM.ne hB
  have c0 : ∀ o, (w.alloc o).cell? ⟨cb, 0, none⟩ = some (.pointer (some ⟨ba, 0, none⟩)) := fun o => (hB.alloc o).cell 0
  go_enter Tryz.func163, Tryz.ntmps163
  go_wp2_with (first
    | (refine wpList_load_rowg (by rfl) 72 (.tmp 14) rfl w1.heap.size rfl 72 (nums (pgs n)) (0, 0) _ hB8 Tryz.underlying72 rfl (hsz ▸ (by kernel_rfl)) ?_)
    | (refine wpList_load_rowg (by rfl) 72 (.tmp 14) rfl w1.heap.size rfl 72 (nums (pgs n)) (0, 0) _ hB7 Tryz.underlying72 rfl (hsz ▸ (by kernel_rfl)) ?_)
    | (refine wpList_load_rowg (by rfl) 72 (.tmp 14) rfl w1.heap.size rfl 72 (nums (pgs n)) (0, 0) _ hB6 Tryz.underlying72 rfl (hsz ▸ (by kernel_rfl)) ?_)
    | (refine wpList_load_rowg (by rfl) 72 (.tmp 14) rfl w1.heap.size rfl 72 (nums (pgs n)) (0, 0) _ hB5 Tryz.underlying72 rfl (hsz ▸ (by kernel_rfl)) ?_)
    | (refine wpList_load_rowg (by rfl) 72 (.tmp 14) rfl w1.heap.size rfl 72 (nums (pgs n)) (0, 0) _ hB4 Tryz.underlying72 rfl (hsz ▸ (by kernel_rfl)) ?_)
    | (refine wpList_load_rowg (by rfl) 72 (.tmp 14) rfl w1.heap.size rfl 72 (nums (pgs n)) (0, 0) _ hB3 Tryz.underlying72 rfl (hsz ▸ (by kernel_rfl)) ?_)
    | (refine wpList_load_rowg (by rfl) 72 (.tmp 14) rfl w1.heap.size rfl 72 (nums (pgs n)) (0, 0) _ hB2 Tryz.underlying72 rfl (hsz ▸ (by kernel_rfl)) ?_)
    | (go_at_call 129; refine (Hrd.out _ (hA.ext ((Chg.refl _ _).alloc _))).mono ?_; clear c0; rintro e w1 ⟨rfl, hC1⟩; have hZ1 := (Blk.new w 72 _).ext hC1; have hCC1 : Chg [] w w1 := ((Chg.refl [] w).alloc _).trans hC1; have hs1 := hCC1.size; have hz1 := hZ1.lt)
    | (refine wpList_store_blk rfl 72 (.tmp 14) (.tmp 29) rfl w1.heap.size rfl (nums (pgs n)) rfl 72 _ (Blk.new w1 72 _) (hsz ▸ (by kernel_rfl)) (by rw [hsz]; rfl) hone ?_; intro w2 hC2 hs2 hB2; have hCC2 : Chg [] w w2 := ((hCC1.alloc _).on hC2 (fun i hi => .inr (by simp at hi; omega))); have hM2 := hM.ext hCC2; have c1 := (hB.ext hCC2).cell 1; have hZ2 := (hZ1.alloc _).chg hC2 (by simp; omega))
    | (refine wpList_lookup_b (by rfl) (.tmp 35) (.tmp 36) true rfl mb N f rfl hM2 n rfl hwf (.tuple #[.bool false, .bool true]) (by rw [Hf.out]; rfl) ?_)
    | (refine wpList_mapUpdate_b rfl (.tmp 52) (.tmp 53) (.const (.bool true)) rfl mb N f rfl hM2 (by omega) n true rfl rfl hwf ?_; intro w3 hM3 hC3; have hB3 := hB2.chg hC3 (by simp; omega); have hZ3 := hZ2.chg hC3 (by simp; omega))
    | (go_at_call 145; refine (fences_w (pgs n) _ _ hP).mono ?_; rintro e w4 ⟨rfl, hC4⟩; have hB4 := hB3.ext hC4; have hZ4 := hZ3.ext hC4; have hM4 := hM3.ext hC4)
    | (go_at_call 191; refine (poor_w (pgs n) _ _ hP).mono ?_; rintro e w5 ⟨rfl, hC5⟩; have hB5 := hB4.ext hC5; have hZ5 := hZ4.ext hC5; have hM5 := hM4.ext hC5)
    | (go_at_call 147; refine (level_w (pgs n) _ _ hP).mono ?_; rintro e w6 ⟨rfl, hC6⟩; have hB6 := hB5.ext hC6; have hZ6 := hZ5.ext hC6; have hM6 := hM5.ext hC6)
    | (go_at_call 164; refine (Hky.out _).mono ?_; rintro e w7 ⟨rfl, hC7⟩; have hB7 := hB6.ext hC7; have hZ7 := hZ6.ext hC7; have hM7 := hM6.ext hC7)
    | (go_at_call 165; refine (len_w (pgs n) _ _ hP).mono ?_; rintro e w8 ⟨rfl, hC8⟩; have hB8 := hB7.ext hC8; have hZ8 := hZ7.ext hC8; have hM8 := hM7.ext hC8)
    | (refine wpList_store_blk rfl 72 (.tmp 12) (.tmp 111) rfl w.heap.size rfl (nums (pgs n)) rfl 72 _ hZ8 (hsz ▸ (by kernel_rfl)) (by rw [hsz]; rfl) hone ?_; intro w9 hC9 hs9 hB9; have hM9 := hM8.chg hC9 (by simp; omega)))
  refine bodyPost_ret (res_row_tmp rfl _ hB9 rfl rfl Tryz.underlying72 rfl (hsz ▸ (by kernel_rfl))) rfl ⟨rfl, hM9, ?_⟩
  exact (((((((hCC2.mono (by simp)).trans hC3).nil hC4).nil hC5).nil hC6).nil hC7).nil hC8).on hC9 (fun i hi => .inr (by simp at hi; omega))

end Go.Proofs.YtpcaadipejnllaaGreatDoor

/- The checker: met pages in memory. -/
set_option linter.unusedVariables false
set_option linter.unusedSimpArgs false
namespace Go.Proofs.YtpcaadipejnllaaGreatDoor
open Go.RowKit

theorem zc175 : Tryz.zeroCells175.size = 131 := by kernel_rfl
theorem info175 : (Tryz.prog.info? 175).map (fun i => (i.zero.map (·.cells.size), i.size, i.bytes)) = some (some 131, 131, 1048) := by kernel_rfl
theorem info175' : ∃ i z, Tryz.prog.info? 175 = some i ∧ i.zero = some z ∧ z.cells.size = 131 ∧ i.size = 131 ∧ i.bytes = 1048 := by
  have h := info175
  cases hi : Tryz.prog.info? 175 with
  | none => rw [hi] at h; cases h
  | some i =>
    rw [hi] at h
    simp only [Option.map_some, Option.some.injEq, Prod.mk.injEq] at h
    cases hz : i.zero with
    | none => rw [hz] at h; simp at h
    | some z =>
      rw [hz] at h
      exact ⟨i, z, rfl, hz, by simpa using h.1, h.2.1, h.2.2⟩

theorem run_build_met (w : World) (n lvl : Int) (pg : List Nat) (f : Int) (h : pg.length = 128) :
    (Instr.build 175 #[(0, .int .i64 n), (1, .int .i64 lvl), (2, .agg (nums pg)), (3, .int .i64 f)]).run Tryz.prog w = .ok (.agg (metV n lvl pg f)) w := by
  have hs : (nums pg).size = 128 := by rw [nums_size]; exact h
  have hz := zc175
  obtain ⟨Z, hZ⟩ : ∃ Z, Z = Tryz.zeroCells175 := ⟨_, rfl⟩
  rw [← hZ] at hz
  have e := foldl_arr 2 (nums pg) ((Z.setIfInBounds 0 (.int .i64 n)).setIfInBounds 1 (.int .i64 lvl)) (by simp; omega)
  have e2 : (((Z.setIfInBounds 0 (.int .i64 n)).setIfInBounds 1 (.int .i64 lvl)).toList.take 2 ++ (nums pg).toList ++ ((Z.setIfInBounds 0 (.int .i64 n)).setIfInBounds 1 (.int .i64 lvl)).toList.drop (2 + (nums pg).size)).toArray.setIfInBounds 130 (.int .i64 f) = metV n lvl pg f := by
    have h2 : ((Z.setIfInBounds 0 (.int .i64 n)).setIfInBounds 1 (.int .i64 lvl)).toList.take 2 = [.int .i64 n, .int .i64 lvl] := by
      apply List.ext_getElem?
      intro i
      rw [List.getElem?_take]
      match i with
      | 0 => simp [Array.getElem?_setIfInBounds, hz]
      | 1 => simp [Array.getElem?_setIfInBounds, hz]
      | i + 2 => rw [if_neg (by omega)]; rfl
    obtain ⟨D, hD⟩ : ∃ D, D = ((Z.setIfInBounds 0 (.int .i64 n)).setIfInBounds 1 (.int .i64 lvl)).toList.drop (2 + (nums pg).size) := ⟨_, rfl⟩
    have hDl : D.length = 1 := by rw [hD, List.length_drop]; simp [hz, hs]
    rw [h2, ← hD]
    match D, hDl with
    | [d], _ =>
      rw [List.setIfInBounds_toArray]
      have hl : ([Value.int .i64 n, .int .i64 lvl] ++ (nums pg).toList).length = 130 := by simp [hs]
      rw [List.set_append_right _ _ (by omega), hl]
      rfl
  have e3 := congrArg Array.size e
  rw [← e] at e2
  simp only [Instr.build, Sem.run_bind, Tryz.zeroValue175, Result.andThen_ok, run_underlying Tryz.underlying175]
  rw [← hZ]
  simp [Instr.fill, Tryz.sizeOf3, Tryz.sizeOf72, Tryz.sizeOf173, Value.cells, hs, hz, Sem.run_bind]
  simp [hs, hz] at e2 e3
  rw [if_neg (by omega)]
  simp [e2]

theorem run_buildSlice_met (w : World) (cs : Array Value) (h : cs.size = 131) :
    (Instr.buildSlice 170 1 #[(0, .agg cs)]).run Tryz.prog w = .ok (.slice (some ⟨w.heap.size, 0, none⟩) 1 1) (w.alloc (.cells cs 175)) := by
  have e := foldl_whole cs ((Array.range 131).map (Tryz.zeroCells175[· % Tryz.zeroCells175.size]!)) (by simpa using h)
  simp only [Instr.buildSlice, Sem.run_bind, run_underlying Tryz.underlying170, Result.andThen_ok, Tryz.sizeOf175, Tryz.zeroValue175]
  simp [Instr.fill, Value.cells, h, newRow, Sem.run_bind]
  simp [h] at e
  rw [e]

section
variable {ops : Array Oper} {rest : List Oper} {o : Oper} {a : Act} {w : World} {Q : Exit → Act → World → Prop} {K : Act → World → Prop}
theorem wpList_build_met (hgd : o.guard = none) (x y z u : Operand) (ho : o.op = .build 175 #[(0, x), (1, y), (2, z), (3, u)]) (n lvl : Int) (pg : List Nat) (f : Int) (hx : a.eval x = .int .i64 n) (hy : a.eval y = .int .i64 lvl) (hz : a.eval z = .agg (nums pg)) (hu : a.eval u = .int .i64 f) (hp : pg.length = 128)
    (h : wpList Tryz.prog ops Q rest (a.put o.dst (.agg (metV n lvl pg f))) w) : wpList Tryz.prog ops Q (o :: rest) a w := by
  refine wpList_plain hgd fun K hK => ?_
  have hr := run_build_met w n lvl pg f hp
  unfold Oper.wp execOp
  simp only [ho, List.map_toArray, List.map_cons, List.map_nil, hx, hy, hz, hu, Sem.run_bind, hr, Result.andThen_ok]
  exact hK _ _ h
theorem op_buildSlice_met (x : Operand) (ho : o.op = .buildSlice 170 1 #[(0, x)]) (cs : Array Value) (hx : a.eval x = .agg cs) (hs : cs.size = 131)
    (h : K (a.put o.dst (.slice (some ⟨w.heap.size, 0, none⟩) 1 1)) (w.alloc (.cells cs 175))) : o.wp Tryz.prog a w K Q := by
  have hr := run_buildSlice_met w cs hs
  unfold Oper.wp execOp
  simp only [ho, List.map_toArray, List.map_cons, List.map_nil, hx, Sem.run_bind, hr, Result.andThen_ok]
  exact h
end

/-- A met page as data; met pages in memory. -/
structure Mt where
  n : Int
  lvl : Int
  pg : List Nat
def metL (L : List Mt) : List Value := L.flatMap fun m => (metV m.n m.lvl m.pg 0).toList
theorem metL_len {L : List Mt} (h : ∀ m ∈ L, m.pg.length = 128) : (metL L).length = L.length * 131 := by
  induction L with
  | nil => rfl
  | cons m L ih =>
    have := ih fun x hx => h x (List.mem_cons_of_mem _ hx)
    have h2 := metV_size m.n m.lvl m.pg 0 (h m (by simp))
    simp only [metL, List.flatMap_cons, List.length_append, Array.length_toList, List.length_cons] at this ⊢
    omega
theorem metL_app (L M : List Mt) : metL (L ++ M) = metL L ++ metL M := List.flatMap_append
theorem metL_get {L : List Mt} (h : ∀ m ∈ L, m.pg.length = 128) (k : Nat) (m : Mt) (hk : L[k]? = some m) (j : Nat) (hj : j < 131) : (metL L)[k * 131 + j]? = (metV m.n m.lvl m.pg 0)[j]? := by
  have hkl := (List.getElem?_eq_some_iff.1 hk).1
  have e : L = L.take k ++ m :: L.drop (k + 1) := by
    conv => lhs; rw [← List.take_append_drop k L, List.drop_eq_getElem_cons hkl, (List.getElem?_eq_some_iff.1 hk).2]
  have hm : m ∈ L := List.mem_of_getElem? hk
  have hlt : (metL (L.take k)).length = k * 131 := by
    rw [metL_len (fun x hx => h x (List.mem_of_mem_take hx)), List.length_take, Nat.min_eq_left (by omega)]
  have e2 : metL L = metL (L.take k) ++ ((metV m.n m.lvl m.pg 0).toList ++ metL (L.drop (k + 1))) := by
    conv => lhs; rw [e]
    rw [metL_app]; rfl
  rw [e2, List.getElem?_append_right (by omega), hlt, Nat.add_sub_cancel_left, List.getElem?_append_left (by rw [Array.length_toList, metV_size _ _ _ _ (h m hm)]; exact hj), Array.getElem?_toList]

end Go.Proofs.YtpcaadipejnllaaGreatDoor

/- The checker: a leaf is met. -/
set_option linter.unusedVariables false
set_option linter.unusedSimpArgs false
namespace Go.Proofs.YtpcaadipejnllaaGreatDoor
open Go.RowKit

theorem own_nm {w : World} {base mb N : Nat} {e : TypeId} {size n q : Nat} {v : Value} {xs : List Value} {f : Int → Option Bool} (h : w.ownsRow base e size v n xs) (hM : MapB w mb N f) (hq : v.ownBlock = some q) : q ≠ mb := by
  rcases h.2 with ⟨rfl, _⟩ | ⟨g, c, cur, rfl, _, hg, _⟩
  · cases hq
  · have : g = q := by simpa [Value.ownBlock] using hq
    subst this
    exact fun e => hM.ne (g := g) (t := _) (cs := cur) hg e.symm

set_option maxRecDepth 100000 in
set_option maxHeartbeats 1000000 in
theorem meet0_w (cb ba bm bw fr rt mb N n base : Nat) (pgs : Nat → List Nat) (low high : ByteArray) (root : Bool) (f : Int → Option Bool) (v : Value) (L : List Mt) (w : World) (hA : ArS w ba bm bw fr rt pgs) (hB : Blk w cb 172 #[.pointer (some ⟨ba, 0, none⟩), .map (some mb), v]) (hM : MapB w mb N f)
    (hO : w.ownsRow base 175 131 v L.length (metL L)) (hb : base ≤ w.heap.size) (hl : (pgs n).length = 128) (hll : L.length ≤ 100)
    (hfl : ∀ w, ArS w ba bm bw fr rt pgs → Blk w cb 172 #[.pointer (some ⟨ba, 0, none⟩), .map (some mb), v] → MapB w mb N f → Calls Tryz.prog 163 #[.pointer (some ⟨cb, 0, none⟩), .int .i64 n, .int .i64 0, .string low, .string high, .bool root] w fun e w' => e = .returned (.tuple #[.agg (nums (pgs n)), .int .i64 0]) ∧ MapB w' mb (N + 1) (putB f n true) ∧ Chg [mb] w w') :
    Calls Tryz.prog 130 #[.pointer (some ⟨cb, 0, none⟩), .int .i64 n, .int .i64 0, .string low, .string high, .bool root] w fun e w' => ∃ v', e = .returned (.tuple #[]) ∧ Blk w' cb 172 #[.pointer (some ⟨ba, 0, none⟩), .map (some mb), v'] ∧ MapB w' mb (N + 1) (putB f n true) ∧
      w'.ownsRow base 175 131 v' (L ++ [Mt.mk n 0 (pgs n)]).length (metL (L ++ [Mt.mk n 0 (pgs n)])) ∧ Chg (mb :: cb :: v.ownBlock.toList) w w' := by
  have hmc := hM.ne hB
  have hcb := hB.lt
  have hmb := hM.lt
  have hsz : (nums (pgs n)).size = 128 := by rw [nums_size]; exact hl
  have hone : (nums (pgs n)).all (·.oneCell') = true := nums_one _
  have hms := metV_size n 0 (pgs n) 0 hl
  have hmo := metV_one n 0 (pgs n) 0
  obtain ⟨mv, hmv⟩ : ∃ mv, mv = metV n 0 (pgs n) 0 := ⟨_, rfl⟩
  obtain ⟨i0, z0, hi, hz0, hz1, hz2, hz3⟩ := info175'
  have hov : ∀ k, v.ownBlock = some k → k ≠ cb := fun k hk => own_ne hO hB (by decide) hk
  have hom : ∀ k, v.ownBlock = some k → k ≠ mb := fun k hk => own_nm hO hM hk
  have hol : ∀ k, v.ownBlock = some k → k < w.heap.size := fun k hk => (hO.lt k hk).2
  rw [← hmv] at hms hmo
  have Hmv := Lib.hid hmv
  clear hmv
  go_enter Tryz.func130, Tryz.ntmps130
  go_upto_region 2 with (first
    | (go_at_call 163; refine (hfl _ hA hB hM).mono ?_; rintro e w1 ⟨rfl, hM1, hC1⟩; have hB1 := hB.chg hC1 (by simpa using hmc.symm); have hs1 := hC1.size)
    | (refine wpList_store_blk rfl 72 (.tmp 12) (.tmp 29) rfl w1.heap.size rfl (nums (pgs n)) rfl 72 _ (Blk.new w1 72 _) (hsz ▸ (by kernel_rfl)) (by rw [hsz]; rfl) hone ?_; intro w2 hC2 hs2 hP2; have hCC2 : Chg [mb] w w2 := (hC1.alloc _).on hC2 (fun i hi => .inr (by simp at hi; omega)); have hss2 : w2.heap.size = w1.heap.size + 1 := (by rw [hs2]; simp); have Hs2 := Lib.hid hss2; clear hss2 hs2)
    | (refine wpList_load_rowg (by rfl) 72 (.tmp 12) rfl w1.heap.size rfl 72 (nums (pgs n)) (0, 0) _ hP2 Tryz.underlying72 rfl (hsz ▸ (by kernel_rfl)) ?_)
    | (refine wpList_build_met rfl (.tmp 31) (.tmp 32) (.tmp 33) (.tmp 34) rfl n 0 (pgs n) 0 rfl rfl rfl rfl hl ?_; rw [← Hmv.out])
    | (refine wpList_store_blk rfl 175 (.tmp 14) (.tmp 35) rfl w2.heap.size rfl mv rfl 175 _ (Blk.new w2 175 _) (hms ▸ (by kernel_rfl)) (by rw [hms]; rfl) hmo ?_; intro w3 hC3 hs3 hT3; have hss2 := Hs2.out; have hCC3 : Chg [mb] w w3 := (hCC2.alloc _).on hC3 (fun i hi => .inr (by simp at hi; omega))))
  have hss3 : w3.heap.size = w2.heap.size + 1 := by rw [hs3]; simp
  clear hs3
  have hP3 : Blk w3 w1.heap.size 72 (nums (pgs n)) := (hP2.alloc _).chg hC3 (by simp; omega)
  have hB3 : Blk w3 cb 172 #[.pointer (some ⟨ba, 0, none⟩), .map (some mb), v] := hB.chg hCC3 (by simpa using hmc.symm)
  have hM3 : MapB w3 mb (N + 1) (putB f n true) := ((hM1.ext ((Chg.refl _ _).alloc _)).chg hC2 (by simp; omega)) |>.ext ((Chg.refl _ _).alloc _) |>.chg hC3 (by simp; omega)
  have hO3 : w3.ownsRow base 175 131 v L.length (metL L) := own_chg hO hCC3 (fun k hk => by simpa using hom k hk)
  have hu175 := Tryz.underlying175
  have hi175 : (Tryz.prog.info? 175).map (·.size) = some mv.toList.length := by rw [Array.length_toList, hms]; kernel_rfl
  have hS : ∀ W, Chg (cb :: v.ownBlock.toList) w3 W → W.rangeAt w2.heap.size 0 mv.toList := fun W hW =>
    fun j u hv => by rw [Nat.zero_add, (hT3.chg hW (by intro hk; rcases List.mem_cons.1 hk with hk | hk; omega; have := hol _ (by simpa using hk); omega)).cell, ← Array.getElem?_toList]; exact hv
  have c2a : w3.drew.cell? ⟨cb, 2, none⟩ = some v := hB3.cell 2
  have c2b : ((w3.alloc (.cells mv 175)).drew).cell? ⟨cb, 2, none⟩ = some v := (hB3.alloc _).cell 2
  have hO4 := (hO3.alloc (.cells mv 175)).drew
  have hX4 : Blk (w3.drew.alloc (.cells mv 175)) w3.heap.size 175 mv := Blk.newEq rfl
  have hC4 : Chg v.ownBlock.toList w3 (w3.drew.alloc (.cells mv 175)) := ((Chg.refl _ w3).drew).alloc _
  have hfin : ∀ v2 w5 w6, w5.ownsRow base 175 131 v2 (L.length + 1) (metL L ++ mv.toList) → Chg v.ownBlock.toList w3 w5 → Chg [cb] w5 w6 → Blk w6 cb 172 (#[.pointer (some ⟨ba, 0, none⟩), .map (some mb), v].setIfInBounds 2 v2) → ∃ v2, w6.ownsRow base 175 131 v2 (L.length + 1) (metL L ++ mv.toList) ∧ Blk w6 cb 172 #[.pointer (some ⟨ba, 0, none⟩), .map (some mb), v2] ∧ Chg (cb :: v.ownBlock.toList) w3 w6 := fun v2 w5 w6 hO5 hC5 hC6 hB6 =>
    ⟨v2, own_chg hO5 hC6 (fun k hk hm => own_ne hO5 (hB3.chg hC5 (by intro hk; exact hov cb (by simpa using hk) rfl)) (by decide) hk (by simpa using hm)), hB6, (hC5.mono (fun k hk => List.mem_cons_of_mem _ hk)).trans (hC6.mono (by simp))⟩
  have hnl : ∀ u ∈ mv.toList, u.oneCell' = true := fun u hu => Array.all_eq_true_iff_forall_mem.1 hmo u (by simpa using hu)
  have Hss2 := Lib.hid hss2
  have Hss3 := Lib.hid hss3
  clear hss2 hss3
  try simp only [Act.put, List.setIfInBounds_toArray, List.set_cons_zero, List.set_cons_succ]
  go_cut [] (fun wx => ∃ v2, wx.ownsRow base 175 131 v2 (L.length + 1) (metL L ++ mv.toList) ∧ Blk wx cb 172 #[.pointer (some ⟨ba, 0, none⟩), .map (some mb), v2] ∧ Chg (cb :: v.ownBlock.toList) w3 wx)
  case first =>
    refine wp_region_held_drew (S := fun W => W.rangeAt w2.heap.size 0 mv.toList) (by kernel_rfl) (hS _ ((Chg.refl _ w3).drew)) (fun hH => ?_)
    refine wpAnyH_take (i := 0) (v := .pointer (some ⟨cb, 0, none⟩)) rfl (by kernel_rfl) (by kernel_rfl) (by kernel_rfl) (fun _ _ _ h => h) (Or.inl ⟨by rfl, fun w' hw' => by go_simp⟩) hH ?_
    try simp only [List.getElem_toArray, List.getElem_cons_succ, List.getElem_cons_zero, Act.put, List.setIfInBounds_toArray, List.set_cons_zero, List.set_cons_succ]
    refine wpAnyH_take (i := 1) (v := .pointer (some ⟨cb, 0, none⟩)) rfl (by kernel_rfl) (by kernel_rfl) (by kernel_rfl) (fun _ _ _ h => h) (Or.inl ⟨by rfl, fun w' hw' => by go_simp⟩) hH ?_
    try simp only [List.getElem_toArray, List.getElem_cons_succ, List.getElem_cons_zero, Act.put, List.setIfInBounds_toArray, List.set_cons_zero, List.set_cons_succ]
    refine wpAnyH_take (i := 2) (v := .pointer (some ⟨cb, 0, none⟩)) rfl (by kernel_rfl) (by kernel_rfl) (by kernel_rfl) (fun _ _ _ h => h) (Or.inl ⟨by rfl, fun w' hw' => by go_simp⟩) hH ?_
    try simp only [List.getElem_toArray, List.getElem_cons_succ, List.getElem_cons_zero, Act.put, List.setIfInBounds_toArray, List.set_cons_zero, List.set_cons_succ]
    refine wpAnyH_take (i := 3) (v := .pointer (some ⟨cb, 2, none⟩)) rfl (by kernel_rfl) (by kernel_rfl) (by kernel_rfl) (fun _ _ _ h => h) (Or.inl ⟨by rfl, fun w' hw' => by go_simp⟩) hH ?_
    try simp only [List.getElem_toArray, List.getElem_cons_succ, List.getElem_cons_zero, Act.put, List.setIfInBounds_toArray, List.set_cons_zero, List.set_cons_succ]
    refine wpAnyH_take (i := 5) rfl (by kernel_rfl) (by kernel_rfl) (by kernel_rfl) (fun _ _ _ h => h) (yieldsIf_load_mid (by rfl) _ _ rfl _ _ rfl mv.toList _ (fun w' hw' => hw') hu175 rfl hi175) hH ?_
    try simp only [List.getElem_toArray, List.getElem_cons_succ, List.getElem_cons_zero, Act.put, List.setIfInBounds_toArray, List.set_cons_zero, List.set_cons_succ]
    rw [Array.toArray_toList]
    refine wpAnyH_ready (rs := [4, 6]) (by kernel_rfl) (by simp) ?_
    refine AllReadyH.cons rfl (fun K hK => ?_) (AllReadyH.cons rfl (fun K hK => ?_) AllReadyH.nil)
    · go_simp
      refine hK.out _ _ (hS _ ((Chg.refl _ w3).drew)) (fun hH => ?_)
      clear hK K
      try simp only [List.getElem_toArray, List.getElem_cons_succ, List.getElem_cons_zero, Act.put, List.setIfInBounds_toArray, List.set_cons_zero, List.set_cons_succ]
      refine wpAnyH_ready (rs := [6]) (by kernel_rfl) (by simp) ?_
      refine AllReadyH.cons rfl (fun K hK => ?_) AllReadyH.nil
      rw [if_pos (by rfl)]
      refine op_buildSlice_met _ rfl mv rfl hms ?_
      refine hK.out _ _ (hS _ (hC4.mono (fun k hk => List.mem_cons_of_mem _ hk))) (fun hH => ?_)
      clear hK K
      try simp only [List.getElem_toArray, List.getElem_cons_succ, List.getElem_cons_zero, Act.put, List.setIfInBounds_toArray, List.set_cons_zero, List.set_cons_succ]
      refine wpAnyH_ready (rs := [7]) (by kernel_rfl) (by simp) ?_
      refine AllReadyH.cons rfl (fun K hK => ?_) AllReadyH.nil
      rw [if_pos (by rfl)]
      refine wp_append_own _ _ _ 170 rfl base 175 i0 z0 131 1048 Tryz.underlying170 hi hz0 hz2 hz3 hz1 (by decide) v L.length (metL L) rfl hO4 ⟨w3.drew.heap.size, 0, none⟩ 1 1 mv.toList rfl (by rw [Array.length_toList, hms]) (fun j u hu => by have hq := hX4.cell j; rw [add_mk, Nat.zero_add]; exact hq.trans (by rw [← Array.getElem?_toList]; exact hu)) hnl (by unfold maxLen; omega) (by omega) (by have := hCC3.size; simp; omega) ?_
      intro v2 w5 hO5 hg5 _
      have hC5 : Chg v.ownBlock.toList w3 w5 := hC4.grown hg5 (fun k hk => .inl (by simp [hk]))
      have hB5 := hB3.chg hC5 (by intro hk; exact hov cb (by simpa using hk) rfl)
      refine hK.out _ _ (hS _ (hC5.mono (fun k hk => List.mem_cons_of_mem _ hk))) (fun hH => ?_)
      clear hK K
      try simp only [List.getElem_toArray, List.getElem_cons_succ, List.getElem_cons_zero, Act.put, List.setIfInBounds_toArray, List.set_cons_zero, List.set_cons_succ]
      refine wpAnyH_take (i := 8) (v := .pointer (some ⟨cb, 0, none⟩)) rfl (by kernel_rfl) (by kernel_rfl) (by kernel_rfl) (fun _ _ _ h => h) (Or.inl ⟨by rfl, fun w' hw' => by go_simp⟩) hH ?_
      try simp only [List.getElem_toArray, List.getElem_cons_succ, List.getElem_cons_zero, Act.put, List.setIfInBounds_toArray, List.set_cons_zero, List.set_cons_succ]
      refine wpAnyH_take (i := 9) (v := .pointer (some ⟨cb, 2, none⟩)) rfl (by kernel_rfl) (by kernel_rfl) (by kernel_rfl) (fun _ _ _ h => h) (Or.inl ⟨by rfl, fun w' hw' => by go_simp⟩) hH ?_
      try simp only [List.getElem_toArray, List.getElem_cons_succ, List.getElem_cons_zero, Act.put, List.setIfInBounds_toArray, List.set_cons_zero, List.set_cons_succ]
      refine wpAnyH_ready (rs := [10]) (by kernel_rfl) (by simp) ?_
      refine AllReadyH.cons rfl (fun K hK => ?_) AllReadyH.nil
      rw [if_pos (by rfl)]
      refine op_store_one 170 _ _ rfl cb 2 rfl v2 rfl 172 _ hB5 (by simp) (by kernel_rfl) (own_one hO5) ?_
      intro w6 hC6 hs6 hB6
      refine hK.out _ _ (hS _ ((hC5.mono (fun k hk => List.mem_cons_of_mem _ hk)).trans (hC6.mono (by simp)))) (fun hH => ?_)
      clear hK K
      try simp only [List.getElem_toArray, List.getElem_cons_succ, List.getElem_cons_zero, Act.put, List.setIfInBounds_toArray, List.set_cons_zero, List.set_cons_succ]
      refine wpAnyH_done (by kernel_rfl) ?_ _
      go_wp2_with fail
      go_meet
      exact hfin v2 w5 w6 hO5 hC5 hC6 hB6
    · rw [if_pos (by rfl)]
      refine op_buildSlice_met _ rfl mv rfl hms ?_
      refine hK.out _ _ (hS _ (hC4.mono (fun k hk => List.mem_cons_of_mem _ hk))) (fun hH => ?_)
      clear hK K
      try simp only [List.getElem_toArray, List.getElem_cons_succ, List.getElem_cons_zero, Act.put, List.setIfInBounds_toArray, List.set_cons_zero, List.set_cons_succ]
      refine wpAnyH_ready (rs := [4]) (by kernel_rfl) (by simp) ?_
      refine AllReadyH.cons rfl (fun K hK => ?_) AllReadyH.nil
      go_simp
      refine hK.out _ _ (hS _ (hC4.mono (fun k hk => List.mem_cons_of_mem _ hk))) (fun hH => ?_)
      clear hK K
      try simp only [List.getElem_toArray, List.getElem_cons_succ, List.getElem_cons_zero, Act.put, List.setIfInBounds_toArray, List.set_cons_zero, List.set_cons_succ]
      refine wpAnyH_ready (rs := [7]) (by kernel_rfl) (by simp) ?_
      refine AllReadyH.cons rfl (fun K hK => ?_) AllReadyH.nil
      rw [if_pos (by rfl)]
      refine wp_append_own _ _ _ 170 rfl base 175 i0 z0 131 1048 Tryz.underlying170 hi hz0 hz2 hz3 hz1 (by decide) v L.length (metL L) rfl hO4 ⟨w3.heap.size, 0, none⟩ 1 1 mv.toList rfl (by rw [Array.length_toList, hms]) (fun j u hu => by have hq := hX4.cell j; rw [add_mk, Nat.zero_add]; exact hq.trans (by rw [← Array.getElem?_toList]; exact hu)) hnl (by unfold maxLen; omega) (by omega) (by have := hCC3.size; simp; omega) ?_
      intro v2 w5 hO5 hg5 _
      have hC5 : Chg v.ownBlock.toList w3 w5 := hC4.grown hg5 (fun k hk => .inl (by simp [hk]))
      have hB5 := hB3.chg hC5 (by intro hk; exact hov cb (by simpa using hk) rfl)
      refine hK.out _ _ (hS _ (hC5.mono (fun k hk => List.mem_cons_of_mem _ hk))) (fun hH => ?_)
      clear hK K
      try simp only [List.getElem_toArray, List.getElem_cons_succ, List.getElem_cons_zero, Act.put, List.setIfInBounds_toArray, List.set_cons_zero, List.set_cons_succ]
      refine wpAnyH_take (i := 8) (v := .pointer (some ⟨cb, 0, none⟩)) rfl (by kernel_rfl) (by kernel_rfl) (by kernel_rfl) (fun _ _ _ h => h) (Or.inl ⟨by rfl, fun w' hw' => by go_simp⟩) hH ?_
      try simp only [List.getElem_toArray, List.getElem_cons_succ, List.getElem_cons_zero, Act.put, List.setIfInBounds_toArray, List.set_cons_zero, List.set_cons_succ]
      refine wpAnyH_take (i := 9) (v := .pointer (some ⟨cb, 2, none⟩)) rfl (by kernel_rfl) (by kernel_rfl) (by kernel_rfl) (fun _ _ _ h => h) (Or.inl ⟨by rfl, fun w' hw' => by go_simp⟩) hH ?_
      try simp only [List.getElem_toArray, List.getElem_cons_succ, List.getElem_cons_zero, Act.put, List.setIfInBounds_toArray, List.set_cons_zero, List.set_cons_succ]
      refine wpAnyH_ready (rs := [10]) (by kernel_rfl) (by simp) ?_
      refine AllReadyH.cons rfl (fun K hK => ?_) AllReadyH.nil
      rw [if_pos (by rfl)]
      refine op_store_one 170 _ _ rfl cb 2 rfl v2 rfl 172 _ hB5 (by simp) (by kernel_rfl) (own_one hO5) ?_
      intro w6 hC6 hs6 hB6
      refine hK.out _ _ (hS _ ((hC5.mono (fun k hk => List.mem_cons_of_mem _ hk)).trans (hC6.mono (by simp)))) (fun hH => ?_)
      clear hK K
      try simp only [List.getElem_toArray, List.getElem_cons_succ, List.getElem_cons_zero, Act.put, List.setIfInBounds_toArray, List.set_cons_zero, List.set_cons_succ]
      refine wpAnyH_done (by kernel_rfl) ?_ _
      go_wp2_with fail
      go_meet
      exact hfin v2 w5 w6 hO5 hC5 hC6 hB6
  case rest =>
    obtain ⟨v2, hO6, hB6, hC6⟩ := hcut
    obtain ⟨w6, hw6⟩ : ∃ w6, w6 = wc := ⟨_, rfl⟩
    rw [← hw6] at hO6 hB6 hC6 ⊢
    clear hw6
    have hS6 := hC6.size
    have hss2 := Hss2.out
    have hss3 := Hss3.out
    have hT6 := hT3.chg hC6 (by intro hk; rcases List.mem_cons.1 hk with hk | hk; omega; have := hol _ (by simpa using hk); omega)
    have hM6 := hM3.chg hC6 (by intro hk; rcases List.mem_cons.1 hk with hk | hk; exact hmc hk; exact hom _ (by simpa using hk) rfl)
    clear hss2 hss3
    have hir := fun w => inrow_w n 0 (pgs n) w hl
    rw [← Hmv.out] at hir
    have Hir := Lib.hid hir
    clear hir
    go_wp2_with (first
      | (refine wpList_load_rowg (by rfl) 175 (.tmp 14) rfl w2.heap.size rfl 175 mv (0, 0) _ hT6 Tryz.underlying175 rfl (hms ▸ (by kernel_rfl)) ?_)
      | (go_at_call 131; refine (Hir.out _).mono ?_; rintro e w7 ⟨rfl, hC7⟩))
    refine bodyPost_ret (results_none rfl _ _ _) rfl ⟨v2, rfl, hB6.ext hC7, hM6.ext hC7, ?_, ?_⟩
    · have e1 : (L ++ [Mt.mk n 0 (pgs n)]).length = L.length + 1 := by simp
      have e2 : metL (L ++ [Mt.mk n 0 (pgs n)]) = metL L ++ mv.toList := by rw [metL_app, Hmv.out]; simp [metL]
      rw [e1, e2]
      exact own_ext hO6 hC7
    · exact ((hCC3.mono (by simp)).trans (hC6.mono (fun k hk => List.mem_cons_of_mem _ hk))).nil hC7


end Go.Proofs.YtpcaadipejnllaaGreatDoor
