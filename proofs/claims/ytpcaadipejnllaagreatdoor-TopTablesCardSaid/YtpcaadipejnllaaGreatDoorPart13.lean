/- A cell of a text is read; any cell. -/
import Derived.Test.YtpcaadipejnllaaGreatDoorPart12
import Derived.Test.YtpcaadipejnllaaGreatDoorPart10

set_option linter.unusedVariables false
set_option linter.unusedSimpArgs false
namespace Go.Proofs.YtpcaadipejnllaaGreatDoor
open Go.RowKit

set_option maxRecDepth 100000 in
set_option maxHeartbeats 1000000 in
theorem take_t (s : ByteArray) (hs10 : s.size ≤ 10) (r : List UInt8) (hr : r.length ≤ 1000) (w : World) (hG : Gv w) :
    Calls Tryz.prog 90 #[.string ⟨(enc (.t s) ++ r).toArray⟩, .int .i64 3] w fun e w' => e = .returned (.tuple #[.agg (Cl.t s).cs, .string ⟨r.toArray⟩, .bool true]) ∧ Chg [] w w' := by
  have hel := esc_len s.data.toList
  have hsl : s.data.toList.length = s.size := by simp
  have hback : (⟨(Lib.replaceAll (esc s.data.toList) [0, 255] [0]).toArray⟩ : ByteArray) = s := by rw [esc_back]
  have hidx := esc_index s.data.toList r
  have hext1 := ext_pre (esc s.data.toList) (0 :: 1 :: r)
  have hext2 := ext_post (esc s.data.toList ++ [0, 1]) r
  have hen : enc (.t s) ++ r = esc s.data.toList ++ 0 :: 1 :: r := by simp [enc]
  rw [hen]
  rw [show esc s.data.toList ++ ([0, 1] : List UInt8) ++ r = esc s.data.toList ++ 0 :: 1 :: r by simp, show (esc s.data.toList ++ ([0, 1] : List UInt8)).length = (esc s.data.toList).length + 2 by simp] at hext2
  have hsz : (⟨(esc s.data.toList ++ 0 :: 1 :: r).toArray⟩ : ByteArray).size = (esc s.data.toList).length + 2 + r.length := by show (esc s.data.toList ++ 0 :: 1 :: r).toArray.size = _; simp; omega
  rw [show (esc s.data.toList ++ 0 :: 1 :: r).length = (esc s.data.toList).length + 2 + r.length by simp; omega] at hext2
  have hne : (⟨(esc s.data.toList ++ 0 :: 1 :: r).toArray⟩ : ByteArray).toList.isEmpty = false := nonemp (by rw [hsz]; omega)
  have hidx2 : Lib.index (⟨(esc s.data.toList ++ 0 :: 1 :: r).toArray⟩ : ByteArray).data.toList [0, 1] = ((esc s.data.toList).length : Int) := by
    show Lib.index (esc s.data.toList ++ 0 :: 1 :: r).toArray.toList [0, 1] = _
    rw [List.toList_toArray]; exact hidx
  obtain ⟨S, hS⟩ : ∃ S : ByteArray, S = ⟨(esc s.data.toList ++ 0 :: 1 :: r).toArray⟩ := ⟨_, rfl⟩
  rw [← hS] at hext1 hext2 hsz hne hidx2 ⊢
  clear hS hen hidx
  obtain ⟨E, hE⟩ : ∃ E, E = esc s.data.toList := ⟨_, rfl⟩
  rw [← hE] at hel hback hext1 hext2 hsz hidx2
  clear hE
  obtain ⟨e0, he0⟩ : ∃ e0, e0 = E.length := ⟨_, rfl⟩
  rw [← he0] at hel hext1 hext2 hsz hidx2
  have hcnt : Lib.countB ⟨E.toArray⟩ ⟨#[0, 255]⟩ ≤ e0 := by
    have h := Lib.countB_mul_le ⟨#[0, 255]⟩ (by decide) e0 ⟨E.toArray⟩ (by show E.toArray.size ≤ e0; simp [he0])
    have e2 : (⟨#[0, 255]⟩ : ByteArray).size = 2 := rfl
    have e1 : (⟨E.toArray⟩ : ByteArray).size = e0 := by show E.toArray.size = e0; simp [he0]
    rw [e2, e1] at h
    omega
  have hEs : (⟨E.toArray⟩ : ByteArray).size = e0 := by show E.toArray.size = e0; simp [he0]
  have hd1 : decide ((e0 : Int) < 0) = false := decide_eq_false (by omega)
  have hw2 : IntKind.i64.wrap ((e0 : Int) + 2) = (e0 : Int) + 2 := by rw [IntKind.wrap_i64]; omega
  have hX : Blk ((w.alloc (.cells #[.int .i64 0, .int .u64 0, .int .i64 0, .string ⟨#[]⟩, .bool false] 62)).alloc (.cells #[.int .i64 3, .int .u64 0, .int .i64 0, .string ⟨#[]⟩, .bool false] 62)) (w.heap.size + 1) 62 #[.int .i64 3, .int .u64 0, .int .i64 0, .string ⟨#[]⟩, .bool false] := Blk.newEq (by simp)
  have hR : Blk ((w.alloc (.cells #[.int .i64 0, .int .u64 0, .int .i64 0, .string ⟨#[]⟩, .bool false] 62)).alloc (.cells #[.int .i64 3, .int .u64 0, .int .i64 0, .string ⟨#[]⟩, .bool false] 62)) w.heap.size 62 #[.int .i64 0, .int .u64 0, .int .i64 0, .string ⟨#[]⟩, .bool false] := (Blk.new _ _ _).alloc _
  have hC0 : Chg [] w ((w.alloc (.cells #[.int .i64 0, .int .u64 0, .int .i64 0, .string ⟨#[]⟩, .bool false] 62)).alloc (.cells #[.int .i64 3, .int .u64 0, .int .i64 0, .string ⟨#[]⟩, .bool false] 62)) := ((Chg.refl _ _).alloc _).alloc _
  obtain ⟨m, hm⟩ := hG.chg hC0 (by simp)
  have Hm := Lib.hid hm
  have Hi := Lib.hid hidx2
  have Hb := Lib.hid hback
  have Hes := Lib.hid hEs
  clear hm he0 hidx2 hback hEs
  go_enter Tryz.func90, Tryz.ntmps90
  go_upto_region 22 with (first
    | (go_at_call 127; go_loud (refine (Tryz.strings_Index S ⟨#[0, 1]⟩ m _ (by omega) Hm.out).mono ?_; rintro e w1 ⟨he, rfl⟩; rw [show (⟨#[0, 1]⟩ : ByteArray).data.toList = [0, 1] from rfl, Hi.out] at he; subst he))
    | (go_at_call 112; go_loud (refine (Tryz.strings_ReplaceAll ⟨E.toArray⟩ ⟨#[0, 255]⟩ ⟨#[0]⟩ m _ (by rw [Hes.out]; omega) Hm.out (by decide) (by have : (⟨#[0]⟩ : ByteArray).size = 1 := rfl; rw [this, Hes.out]; omega)).mono ?_; rintro e w1 ⟨he, hB1⟩; have he2 : e = .returned (.string s) := (by rw [he]; show Ending.returned (Value.string ⟨(Lib.replaceAll E [0, 255] [0]).toArray⟩) = _; rw [Hb.out]); clear he; subst he2; have hC1 := Chg.of_below hB1; have hX1 := hX.ext hC1; have hR1 := hR.ext hC1))
    | (refine wpList_store_one rfl 9 (.tmp 80) (.tmp 79) rfl (w.heap.size + 1) 3 rfl (.string s) rfl 62 _ hX1 (by simp) (by kernel_rfl) rfl ?_; intro w2 hC2 hs2 hX2; have hR2 := hR1.chg hC2 (by simp)))
  have hX3 : Blk w2 (w.heap.size + 1) 62 (Cl.t s).cs := hX2
  have hC2w : Chg [] w w2 := (hC0.trans hC1).on hC2 (fun i hi => .inr (by simp at hi; omega))
  have hbb1 : (0 : Int) ≤ (e0 : Int) + 2 := by omega
  have hbb2 : (e0 : Int) + 2 ≤ (e0 : Int) + 2 + (r.length : Int) := by omega
  have htn : ((e0 : Int) + 2).toNat = e0 + 2 := by omega
  refine wp_region_held_drew (S := fun W => Blk W (w.heap.size + 1) 62 (Cl.t s).cs) (by kernel_rfl) (hX3.drew) (fun hH => ?_)
  refine wpAnyH_take (i := 0) (v := .agg (Cl.t s).cs) rfl (by kernel_rfl) (by kernel_rfl) (by kernel_rfl) (fun _ _ _ h => h) (yieldsIf_load_cl (by rfl) _ rfl (w.heap.size + 1) 0 rfl (.t s) (fun w h => h)) hH ?_
  try simp only [List.getElem_toArray, List.getElem_cons_succ, List.getElem_cons_zero, Act.put, List.setIfInBounds_toArray, List.set_cons_zero, List.set_cons_succ]
  refine wpAnyH_take (i := 1) (v := .string S) rfl (by kernel_rfl) (by kernel_rfl) (by kernel_rfl) (fun _ _ _ h => h) (Or.inl ⟨by rfl, fun w' hw' => by go_simp⟩) hH ?_
  try simp only [List.getElem_toArray, List.getElem_cons_succ, List.getElem_cons_zero, Act.put, List.setIfInBounds_toArray, List.set_cons_zero, List.set_cons_succ]
  refine wpAnyH_take (i := 2) (v := .int .i64 e0) rfl (by kernel_rfl) (by kernel_rfl) (by kernel_rfl) (fun _ _ _ h => h) (Or.inl ⟨by rfl, fun w' hw' => by go_simp⟩) hH ?_
  try simp only [List.getElem_toArray, List.getElem_cons_succ, List.getElem_cons_zero, Act.put, List.setIfInBounds_toArray, List.set_cons_zero, List.set_cons_succ]
  refine wpAnyH_take (i := 3) (v := .int .i64 ((e0 : Int) + 2)) rfl (by kernel_rfl) (by kernel_rfl) (by kernel_rfl) (fun _ _ _ h => h) (Or.inl ⟨by rfl, fun w' hw' => by go_simp⟩) hH ?_
  try simp only [List.getElem_toArray, List.getElem_cons_succ, List.getElem_cons_zero, Act.put, List.setIfInBounds_toArray, List.set_cons_zero, List.set_cons_succ]
  refine wpAnyH_take (i := 4) (v := .string ⟨r.toArray⟩) rfl (by kernel_rfl) (by kernel_rfl) (by kernel_rfl) (fun _ _ _ h => h) (Or.inl ⟨by rfl, fun w' hw' => by go_simp⟩) hH ?_
  try simp only [List.getElem_toArray, List.getElem_cons_succ, List.getElem_cons_zero, Act.put, List.setIfInBounds_toArray, List.set_cons_zero, List.set_cons_succ]
  refine wpAnyH_ready (rs := [5]) (by kernel_rfl) (by simp) ?_
  refine AllReadyH.cons rfl (fun K hK => ?_) AllReadyH.nil
  rw [if_pos (by rfl)]
  refine op_store_blk 62 _ _ rfl w.heap.size rfl (Cl.t s).cs (by rfl) 62 _ hR2.drew (by kernel_rfl) (by rfl) (cs_one _) ?_
  intro w3 hC3 hs3 hR3
  refine hK.out _ _ (hX3.drew.chg hC3 (by simp)) (fun hH => ?_)
  clear hK K
  try simp only [List.getElem_toArray, List.getElem_cons_succ, List.getElem_cons_zero, Act.put, List.setIfInBounds_toArray, List.set_cons_zero, List.set_cons_succ]
  refine wpAnyH_take (i := 6) (v := .string ⟨r.toArray⟩) rfl (by kernel_rfl) (by kernel_rfl) (by kernel_rfl) (fun _ _ _ h => h) (Or.inl ⟨by rfl, fun w' hw' => by go_simp⟩) hH ?_
  try simp only [List.getElem_toArray, List.getElem_cons_succ, List.getElem_cons_zero, Act.put, List.setIfInBounds_toArray, List.set_cons_zero, List.set_cons_succ]
  refine wpAnyH_take (i := 7) (v := .bool true) rfl (by kernel_rfl) (by kernel_rfl) (by kernel_rfl) (fun _ _ _ h => h) (Or.inl ⟨by rfl, fun w' hw' => by go_simp⟩) hH ?_
  try simp only [List.getElem_toArray, List.getElem_cons_succ, List.getElem_cons_zero, Act.put, List.setIfInBounds_toArray, List.set_cons_zero, List.set_cons_succ]
  refine wpAnyH_done (by kernel_rfl) ?_ _
  go_wp2_with fail
  exact bodyPost_ret (res_row_tmp2 rfl _ hR3 rfl rfl rfl Tryz.underlying62 rfl (by kernel_rfl)) rfl ⟨rfl, hC2w.drew.on hC3 (fun i hi => .inr (by simp at hi; omega))⟩

theorem take_w (c : Cl) (hc : c.Ok) (r : List UInt8) (hr : r.length ≤ 1000) (w : World) (hG : Gv w) :
    Calls Tryz.prog 90 #[.string ⟨(enc c ++ r).toArray⟩, .int .i64 c.kd] w fun e w' => e = .returned (.tuple #[.agg c.cs, .string ⟨r.toArray⟩, .bool true]) ∧ Chg [] w w' := by
  cases c with
  | u n => exact take_u n hc r w
  | t s => exact take_t s hc r hr w hG
  | i z =>
    obtain ⟨h1, h2⟩ : -32768 ≤ z ∧ z ≤ 32767 := hc
    by_cases h : 0 ≤ z
    · obtain ⟨n, rfl⟩ := Int.eq_ofNat_of_zero_le h
      exact take_pos n (by omega) r w
    · obtain ⟨n, hn⟩ := Int.eq_ofNat_of_zero_le (show 0 ≤ -z - 1 by omega)
      obtain rfl : z = -(n : Int) - 1 := by omega
      exact take_neg n (by omega) r w

end Go.Proofs.YtpcaadipejnllaaGreatDoor

/- The span of a table. -/
set_option linter.unusedVariables false
set_option linter.unusedSimpArgs false
namespace Go.Proofs.YtpcaadipejnllaaGreatDoor
open Go.RowKit

set_option maxRecDepth 100000 in
set_option maxHeartbeats 1000000 in
theorem are_nil (A : Option Addr) (c : Nat) (w : World) : Calls Tryz.prog 29 #[.slice none 0 0, .slice A 0 c] w fun e w' => e = .returned (.bool true) ∧ w = w' := by
  go_enter Tryz.func29, Tryz.ntmps29
  go_wp2
  refine wp_loop_rounds 1 ?_
  rw [rounds_succ]
  go_wp2
  go_ret
  exact ⟨rfl, rfl⟩

theorem conv_byte (b : UInt8) (w : World) : ∃ G W1, (convert 9 86 (.string ⟨#[b]⟩)).run Tryz.prog w = .ok (.slice (some ⟨w.heap.size, 0, none⟩) 1 G) W1 ∧ Chg [] w W1 ∧ W1.cell? ⟨w.heap.size, 0, none⟩ = some (.int .u8 (b.toNat : Int)) ∧ W1.frozen? ⟨w.heap.size, 0, none⟩ = false ∧ 1 ≤ G ∧ W1.heap.size = w.heap.size + 1 := by
  have h := run_bytes_of_string (P := Tryz.prog) w 9 86 5 ⟨#[b]⟩ Tryz.underlying9 Tryz.underlying86 Tryz.underlying5
  have hz : (⟨#[b]⟩ : ByteArray).size = 1 := rfl
  rw [hz] at h
  have hG := grownCap_ge w 1 0 5
  have hsz : (bytesRow ⟨#[b]⟩ (grownCap w 1 0 5)).size = grownCap w 1 0 5 := by
    show (#[b].map _ ++ Array.replicate _ _).size = _
    simp
    rw [hz]
    omega
  have hcell : (w.drew.alloc (.cells (bytesRow ⟨#[b]⟩ (grownCap w 1 0 5)) 5 ((bytesRow ⟨#[b]⟩ (grownCap w 1 0 5)).size, (bytesRow ⟨#[b]⟩ (grownCap w 1 0 5)).size + 1))).heap[w.heap.size]? = some (.cells (bytesRow ⟨#[b]⟩ (grownCap w 1 0 5)) 5 ((bytesRow ⟨#[b]⟩ (grownCap w 1 0 5)).size, (bytesRow ⟨#[b]⟩ (grownCap w 1 0 5)).size + 1)) := by
    show (w.heap.push _)[w.heap.size]? = _
    rw [Array.getElem?_push, if_pos rfl]
  refine ⟨_, _, h, ((Chg.refl [] w).drew).trans ((Chg.refl [] _).alloc _), ?_, ?_, hG, by simp⟩
  · rw [cell_of_row _ _ 0 _ 5 _ hcell]
    exact bytesRow_at ⟨#[b]⟩ _ 0 (by show 0 < 1; omega)
  · unfold World.frozen?
    rw [hcell]
    simp [hsz]
    omega

set_option maxRecDepth 100000 in
set_option maxHeartbeats 1000000 in
theorem span_w (t : Tb) (vk vr : Value) (w : World) (ht : t.Ok) (hn : t.n < 255) (h1 : KS w vk t.k) (h2 : KS w vr t.r) (hG : Gv w) :
    Calls Tryz.prog 43 #[.agg (tbV t vk vr), .slice none 0 0] w fun e w' => e = .returned (.tuple #[.string ⟨#[UInt8.ofNat t.n]⟩, .string ⟨#[UInt8.ofNat (t.n + 1)]⟩, .int .i64 0]) ∧ Chg [] w w' := by
  have htt := ht
  obtain ⟨n1, n2, k0, k8, r8, kk, rk⟩ := ht
  obtain ⟨A1, c1, rfl, hc1, hm1⟩ := h1.form
  obtain ⟨A2, c2, rfl, hc2, hm2⟩ := h2.form
  have hB : Blk (w.alloc (.cells (tbV t (.slice A1 t.k.length c1) (.slice A2 t.r.length c2)) 37)) w.heap.size 37 (tbV t (.slice A1 t.k.length c1) (.slice A2 t.r.length c2)) := Blk.new _ _ _
  have hC0 : Chg [] w (w.alloc (.cells (tbV t (.slice A1 t.k.length c1) (.slice A2 t.r.length c2)) 37)) := (Chg.refl _ _).alloc _
  have hwn : IntKind.u8.wrap (t.n : Int) = (t.n : Int) := by rw [IntKind.wrap_u8]; omega
  have hwn1 : IntKind.u8.wrap ((t.n : Int) + 1) = (t.n : Int) + 1 := by rw [IntKind.wrap_u8]; omega
  have hbn : ((UInt8.ofNat t.n).toNat : Int) = (t.n : Int) := by simp; omega
  have hd : ((t.n : Int) == 255) = false := by rw [beq_eq_false_iff_ne]; omega
  go_enter Tryz.func43, Tryz.ntmps43
  go_wp2_with (first
    | (refine wpList_load_row rfl 37 (.tmp 2) rfl w.heap.size rfl 37 _ (0, 0) _ hB Tryz.underlying37 rfl (by kernel_rfl) ?_)
    | (go_at_call 28; go_loud (refine (valid_t t _ _ _ htt (h1.ext hC0) (h2.ext hC0)).mono ?_; rintro e w1 ⟨rfl, hC1⟩; have hCC1 := hC0.trans hC1; have b1 : _ = some (Value.slice A1 t.k.length c1) := (hB.ext hC1).cell 1; have b0 : _ = some (Value.int .i64 t.n) := (hB.ext hC1).cell 0))
    | (go_at_call 29; go_loud (refine (are_nil _ _ _).mono ?_; rintro e w3 ⟨rfl, rfl⟩))
    | (go_at_call 31; go_loud (refine (puts_w w1.heap.size [UInt8.ofNat t.n] [] _ _ _ (own_byte w1 t.n n2) (by simp) (by have := hB.lt; have := hC1.size; omega) (by simp) (Sl.nil _ _) (fun k hk => by cases hk) (by simp) (fun c hc => by cases hc) ((hG.chg hCC1 (by simp)).chg ((Chg.refl [] w1).alloc _) (by simp))).mono ?_; rintro e w4 ⟨he, hB4⟩; obtain rfl : e = .returned (.string ⟨#[UInt8.ofNat t.n]⟩) := he; obtain ⟨G, W1, hcv, hC5, x0, x1, hG1, hs5⟩ := conv_byte (UInt8.ofNat t.n) w4; rw [hbn] at x0)))
  refine wp_loop_rounds 1 ?_
  rw [rounds_succ]
  go_upto_region 11 with (fail)
  have hcvw : ∀ W : World, W.cell? ⟨w4.heap.size, 0, none⟩ = some (.int .u8 ((t.n : Int) + 1)) → (convert 86 9 (.slice (some ⟨w4.heap.size, 0, none⟩) 1 G)).run Tryz.prog W = .ok (.string ⟨#[UInt8.ofNat (t.n + 1)]⟩) W := fun W hW =>
    run_convert_bytes_back (P := Tryz.prog) W 86 9 5 ⟨w4.heap.size, 0, none⟩ G [UInt8.ofNat (t.n + 1)] Tryz.underlying86 Tryz.underlying5 Tryz.underlying9 (fun j hj => by
      have hj0 : j = 0 := by simpa using hj
      subst hj0
      have e1 : ((UInt8.ofNat (t.n + 1)).toNat : Int) = (t.n : Int) + 1 := by simp; omega
      show W.cell? ⟨w4.heap.size, 0 + 0, none⟩ = some (.int .u8 ((UInt8.ofNat (t.n + 1)).toNat : Int))
      rw [e1]
      exact hW)
  have hset : (W1.setCell ⟨w4.heap.size, 0, none⟩ (.int .u8 ((t.n : Int) + 1))).cell? ⟨w4.heap.size, 0, none⟩ = some (.int .u8 ((t.n : Int) + 1)) := by go_simp
  have Hcv := Lib.hid hcvw
  clear hcvw
  refine wp_region_held_drew (S := fun W => W.cell? ⟨w4.heap.size, 0, none⟩ = some (.int .u8 ((t.n : Int) + 1))) (by kernel_rfl) (hset) (fun hH => ?_)
  refine wpAnyH_take (i := 0) (v := .string ⟨#[UInt8.ofNat t.n]⟩) rfl (by kernel_rfl) (by kernel_rfl) (by kernel_rfl) (fun _ _ _ h => h) (Or.inl ⟨by rfl, fun w' hw' => by go_simp⟩) hH ?_
  try simp only [List.getElem_toArray, List.getElem_cons_succ, List.getElem_cons_zero, Act.put, List.setIfInBounds_toArray, List.set_cons_zero, List.set_cons_succ]
  refine wpAnyH_take (i := 1) (v := .slice (some ⟨w4.heap.size, 0, none⟩) 1 G) rfl (by kernel_rfl) (by kernel_rfl) (by kernel_rfl) (fun _ _ _ h => h) (Or.inl ⟨by rfl, fun w' hw' => by go_simp⟩) hH ?_
  try simp only [List.getElem_toArray, List.getElem_cons_succ, List.getElem_cons_zero, Act.put, List.setIfInBounds_toArray, List.set_cons_zero, List.set_cons_succ]
  refine wpAnyH_take (i := 2) (v := .string ⟨#[UInt8.ofNat (t.n + 1)]⟩) rfl (by kernel_rfl) (by kernel_rfl) (by kernel_rfl) (fun _ _ _ h => h) (Or.inl ⟨by rfl, fun w' hw' => by have q := Hcv.out w' hw'; go_simp⟩) hH ?_
  try simp only [List.getElem_toArray, List.getElem_cons_succ, List.getElem_cons_zero, Act.put, List.setIfInBounds_toArray, List.set_cons_zero, List.set_cons_succ]
  refine wpAnyH_take (i := 3) (v := .string ⟨#[UInt8.ofNat t.n]⟩) rfl (by kernel_rfl) (by kernel_rfl) (by kernel_rfl) (fun _ _ _ h => h) (Or.inl ⟨by rfl, fun w' hw' => by go_simp⟩) hH ?_
  try simp only [List.getElem_toArray, List.getElem_cons_succ, List.getElem_cons_zero, Act.put, List.setIfInBounds_toArray, List.set_cons_zero, List.set_cons_succ]
  refine wpAnyH_take (i := 4) (v := .string ⟨#[UInt8.ofNat (t.n + 1)]⟩) rfl (by kernel_rfl) (by kernel_rfl) (by kernel_rfl) (fun _ _ _ h => h) (Or.inl ⟨by rfl, fun w' hw' => by go_simp⟩) hH ?_
  try simp only [List.getElem_toArray, List.getElem_cons_succ, List.getElem_cons_zero, Act.put, List.setIfInBounds_toArray, List.set_cons_zero, List.set_cons_succ]
  refine wpAnyH_take (i := 5) (v := .int .i64 0) rfl (by kernel_rfl) (by kernel_rfl) (by kernel_rfl) (fun _ _ _ h => h) (Or.inl ⟨by rfl, fun w' hw' => by go_simp⟩) hH ?_
  try simp only [List.getElem_toArray, List.getElem_cons_succ, List.getElem_cons_zero, Act.put, List.setIfInBounds_toArray, List.set_cons_zero, List.set_cons_succ]
  refine wpAnyH_done (by kernel_rfl) ?_ _
  go_wp2_with fail
  refine bodyPost_ret (results_tmp3 rfl _ _ _) rfl ⟨rfl, ?_⟩
  have hA : Chg [] w w4 := hCC1.trans (Chg.of_below ((((Chg.refl [] w1).alloc _).below).trans hB4))
  exact ((hA.trans hC5).on ((Chg.refl [w4.heap.size] W1).set _ (by simp) _) (fun i hi => .inr (by simp at hi; have := hA.size; omega))).drew


end Go.Proofs.YtpcaadipejnllaaGreatDoor

/- Copies of kinds and of a table's kinds. -/
set_option linter.unusedVariables false
set_option linter.unusedSimpArgs false
namespace Go.Proofs.YtpcaadipejnllaaGreatDoor
open Go.RowKit

set_option maxRecDepth 100000 in
set_option maxHeartbeats 1000000 in
theorem clonek_w (v : Value) (ks : List Int) (w : World) (hK : KS w v ks) (hl : ks.length ≤ 100) :
    Calls Tryz.prog 68 #[v] w fun e w' => ∃ v', e = .returned v' ∧ KS w' v' ks ∧ (∀ k, v'.ownBlock = some k → w.heap.size ≤ k) ∧ Chg [] w w' := by
  have qN := fun (w : World) a n c n' c' => Lib.run_eql_slice_nil (P := Tryz.prog) w 35 59 a n c n' c' Tryz.underlying35
  rcases hK with ⟨rfl, rfl⟩ | ⟨h0, b, o, c, rfl, h1, h2, h3, h4⟩
  · go_enter Tryz.func68, Tryz.ntmps68
    go_wp2
    go_ret
    exact ⟨_, rfl, .inl ⟨rfl, rfl⟩, (by intro k hk; cases hk), Chg.refl _ _⟩
  · have hK : KS w (.slice (some ⟨b, o, none⟩) ks.length c) ks := .inr ⟨h0, b, o, c, rfl, h1, h2, h3, h4⟩
    clear h4
    go_enter Tryz.func68, Tryz.ntmps68
    go_wp2_with (first
      | (at_builtin; refine wpList_append_ks rfl _ _ rfl w.heap.size (.slice (some ⟨w.heap.size, 0, none⟩) 0 0) _ [] ks rfl ?c0 rfl (hK.alloc _) (by simp) (by omega) (by simp) ?_; rotate_left; intro v' w' hown hC))
    case c0 => exact World.ownsRow_made w #[] 0 (Nat.le_refl _) (by unfold maxLen; omega) (by simp)
    go_ret
    rw [List.nil_append] at hown
    refine ⟨_, rfl, KS.own hown h0, fun k hk => (hown.lt k hk).1, ((Chg.refl [] w).alloc _).on hC (fun i hi => .inr (by simp [Value.ownBlock] at hi; omega))⟩

set_option maxRecDepth 100000 in
set_option maxHeartbeats 1000000 in
theorem clonei_w (b o c : Nat) (z : Int) (w : World) (hc1 : 1 ≤ c) (hc : c ≤ maxLen) (hx : w.cell? ⟨b, o, none⟩ = some (.int .i64 z)) :
    Calls Tryz.prog 70 #[.slice (some ⟨b, o, none⟩) 1 c] w fun e w' => ∃ v', e = .returned v' ∧ w'.ownsRow w.heap.size 3 1 v' 1 [.int .i64 z] ∧ Chg [] w w' := by
  obtain ⟨i0, hi, hz0, hz1, hz2⟩ := info_parts info3
  have qN := fun (w : World) a n c n' c' => Lib.run_eql_slice_nil (P := Tryz.prog) w 39 3 a n c n' c' Tryz.underlying39
  have hbl : b < w.heap.size := block_lt_of_cell hx
  go_enter Tryz.func70, Tryz.ntmps70
  go_wp2_with (first
    | (at_builtin; refine wpList_append_own _ rfl _ _ 39 rfl w.heap.size 3 i0 (.int .i64 0) 1 8 Tryz.underlying39 hi hz0 hz1 hz2 rfl (by decide) (.slice (some ⟨w.heap.size, 0, none⟩) 0 0) 0 [] rfl ?c0 ⟨b, o, none⟩ 1 c [.int .i64 z] rfl rfl ?c1 (by simp [Value.oneCell']) (by unfold maxLen; omega) (by omega) (by simp) ?_; rotate_left 2; intro v' w' hown hg2 _))
  case c0 => exact World.ownsRow_made w #[] 0 (Nat.le_refl _) (by unfold maxLen; omega) (by simp)
  case c1 =>
    intro j u hj
    match j, hj with
    | 0, hj =>
      simp at hj
      subst hj
      rw [add_mk]
      have hC : Chg [] w (w.alloc (.cells #[] 3)) := (Chg.refl [] w).alloc _
      rw [hC.cell hbl (by simp)]
      exact hx
  go_ret
  exact ⟨_, rfl, by simpa using hown, ((Chg.refl [] w).alloc _).grown hg2 (by intro k hk; simp [Value.ownBlock] at hk; omega)⟩

set_option maxRecDepth 100000 in
set_option maxHeartbeats 1000000 in
theorem kinds_w (t : Tb) (vk vr : Value) (w : World) (ht : t.Ok) (h1 : KS w vk t.k) (h2 : KS w vr t.r) :
    Calls Tryz.prog 69 #[.agg (tbV t vk vr)] w fun e w' => ∃ v', e = .returned v' ∧ w'.ownsRow w.heap.size 59 1 v' (t.k ++ t.r).length (ints (t.k ++ t.r)) ∧ Chg [] w w' := by
  obtain ⟨n1, n2, k0, k8, r8, kk, rk⟩ := ht
  obtain ⟨A1, c1, rfl, hc1, hm1⟩ := h1.form
  obtain ⟨A2, c2, rfl, hc2, hm2⟩ := h2.form
  have hB : Blk (w.alloc (.cells (tbV t (.slice A1 t.k.length c1) (.slice A2 t.r.length c2)) 37)) w.heap.size 37 (tbV t (.slice A1 t.k.length c1) (.slice A2 t.r.length c2)) := Blk.new _ _ _
  have hC0 : Chg [] w (w.alloc (.cells (tbV t (.slice A1 t.k.length c1) (.slice A2 t.r.length c2)) 37)) := (Chg.refl _ _).alloc _
  have b1 : _ = some (Value.slice A1 t.k.length c1) := hB.cell 1
  have b2 : _ = some (Value.slice A2 t.r.length c2) := hB.cell 2
  go_enter Tryz.func69, Tryz.ntmps69
  go_wp2_with (first
    | (go_at_call 30; go_loud (refine (concatk_w t.k t.r _ _ _ _ (Blk.newEq (by simp)) ((h1.ext hC0).alloc _) ((h2.ext hC0).alloc _) k0 (by omega) (by omega)).mono ?_; rintro e w1 ⟨v', rfl, hown1, hC1⟩)))
  go_ret
  refine ⟨_, rfl, own_base (b' := w.heap.size) hown1 (by simp; omega), (hC0.alloc _).trans hC1⟩

end Go.Proofs.YtpcaadipejnllaaGreatDoor

/- The plain law of a tree: leaves with fences. -/
set_option linter.unusedVariables false
set_option linter.unusedSimpArgs false
namespace Go.Proofs.YtpcaadipejnllaaGreatDoor
open Go.RowKit

/-- A leaf: its page, its lower fence, its pairs. -/
structure Lf where
  p : Nat
  low : ByteArray
  l : List Pr

def hiL (h : ByteArray) : List Lf → ByteArray
  | [] => h
  | y :: _ => y.low
def nxL (n : Nat) : List Lf → Nat
  | [] => n
  | y :: _ => y.p
def pgL (x : Lf) (h : ByteArray) (n : Nat) : PG := ⟨0, x.low, h, n, x.l⟩
def flat (ls : List Lf) : List Pr := ls.flatMap (·.l)
def pgsOf (ls : List Lf) : List Nat := ls.map (·.p)
def seps (ls : List Lf) : List Pr := ls.map fun x => (x.low, numS x.p)
theorem hiL_app (h : ByteArray) (A B : List Lf) : hiL h (A ++ B) = hiL (hiL h B) A := by cases A <;> rfl
theorem nxL_app (n : Nat) (A B : List Lf) : nxL n (A ++ B) = nxL (nxL n B) A := by cases A <;> rfl
theorem flat_app (A B : List Lf) : flat (A ++ B) = flat A ++ flat B := by simp [flat]
theorem flat_cons (x : Lf) (B : List Lf) : flat (x :: B) = x.l ++ flat B := by simp [flat]
theorem seps_app (A B : List Lf) : seps (A ++ B) = seps A ++ seps B := by simp [seps]
theorem seps_len (A : List Lf) : (seps A).length = A.length := by simp [seps]

/-- A leaf as it should be. -/
structure LfOk (pg : List Nat) (g : PG) : Prop where
  is : IsPage pg g
  ok : g.Ok
  ins : g.Inside

/-- Pages of leaves up to a fence and a page. -/
def Lvs (pgs : Nat → List Nat) (h : ByteArray) (n : Nat) : List Lf → Prop
  | [] => True
  | x :: r => LfOk (pgs x.p) (pgL x (hiL h r) (nxL n r)) ∧ Lvs pgs h n r

section
variable {pgs pgs' : Nat → List Nat} {h : ByteArray} {n : Nat}
theorem Lvs.app {A B : List Lf} : Lvs pgs h n (A ++ B) ↔ Lvs pgs (hiL h B) (nxL n B) A ∧ Lvs pgs h n B := by
  induction A with
  | nil => simp [Lvs]
  | cons x A ih =>
    show LfOk _ (pgL x (hiL h (A ++ B)) (nxL n (A ++ B))) ∧ Lvs pgs h n (A ++ B) ↔ (LfOk _ _ ∧ Lvs pgs _ _ A) ∧ _
    rw [ih, hiL_app, nxL_app, and_assoc]
theorem Lvs.far {A : List Lf} (H : Lvs pgs h n A) (e : ∀ x ∈ A, pgs' x.p = pgs x.p) : Lvs pgs' h n A := by
  induction A with
  | nil => trivial
  | cons x A ih =>
    refine ⟨?_, ih H.2 (fun y hy => e y (by simp [hy]))⟩
    rw [e x (by simp)]
    exact H.1
/-- All keys of leaves are below their last fence. -/
theorem Lvs.below {A : List Lf} (H : Lvs pgs h n A) (hA : ∀ x ∈ A.tail, 0 < x.low.size) (hh : 0 < h.size) : (∀ y ∈ flat A, cmpS y.1 h < 0) ∧ ∀ x ∈ A, cmpS x.low h < 0 := by
  induction A with
  | nil => simp [flat]
  | cons x A ih =>
    obtain ⟨h1, h2⟩ := H
    have hhi : 0 < (hiL h A).size := by
      cases A with
      | nil => exact hh
      | cons y A => exact hA y (by simp)
    have hA' : ∀ z ∈ A.tail, 0 < z.low.size := fun z hz => hA z (by
      show z ∈ A
      exact List.mem_of_mem_tail hz)
    obtain ⟨i1, i2⟩ := ih h2 hA'
    have hle : cmpS (hiL h A) h ≤ 0 := by
      cases A with
      | nil => show cmpS h h ≤ 0; rw [cmp_refl]; exact Int.le_refl _
      | cons y A => exact Int.le_of_lt (i2 y (by simp))
    have hlow : cmpS x.low (hiL h A) < 0 := by
      rcases h1.ok.ord with e | ⟨_, e⟩
      · have : hiL h A = ⟨#[]⟩ := e
        rw [this] at hhi
        exact absurd hhi (by decide)
      · exact e
    constructor
    · intro y hy
      rw [flat_cons] at hy
      rcases List.mem_append.1 hy with hy | hy
      · obtain ⟨_, e⟩ := h1.ins y hy
        rcases e with e | ⟨_, e⟩
        · have e : (hiL h A).size = 0 := e
          omega
        · exact cmp_lt_le e hle
      · exact i1 y hy
    · intro z hz
      rcases List.mem_cons.1 hz with e | hz
      · rw [e]; exact cmp_lt_le hlow hle
      · exact i2 z hz
/-- All keys of leaves are above their first fence. -/
theorem Lvs.above {x : Lf} {A : List Lf} (H : Lvs pgs h n (x :: A)) (hA : ∀ y ∈ A, 0 < y.low.size) : (∀ y ∈ flat (x :: A), cmpS x.low y.1 ≤ 0) ∧ ∀ y ∈ A, cmpS x.low y.low < 0 := by
  induction A generalizing x with
  | nil =>
    refine ⟨fun y hy => ?_, by simp⟩
    rw [flat_cons] at hy
    simp [flat] at hy
    exact (H.1.ins y hy).1
  | cons z A ih =>
    obtain ⟨h1, h2⟩ := H
    obtain ⟨i1, i2⟩ := ih h2 (fun y hy => hA y (by simp [hy]))
    have hz := hA z (by simp)
    have hlow : cmpS x.low z.low < 0 := by
      rcases h1.ok.ord with e | ⟨_, e⟩
      · have e : z.low = ⟨#[]⟩ := e
        rw [e] at hz
        exact absurd hz (by decide)
      · exact e
    constructor
    · intro y hy
      rw [flat_cons] at hy
      rcases List.mem_append.1 hy with hy | hy
      · exact (h1.ins y hy).1
      · exact Int.le_of_lt (cmp_lt_le hlow (i1 y hy))
    · intro y hy
      rcases List.mem_cons.1 hy with e | hy
      · rw [e]; exact hlow
      · exact cmp_trans hlow (i2 y hy)
end

theorem Ins.keys {low high k : ByteArray} (h1 : cmpS low k ≤ 0) (h2 : high.size = 0 ∨ cmpS k high < 0) : Ins low high k := by
  refine ⟨h1, ?_⟩
  rcases Nat.eq_zero_or_pos high.size with h | h
  · exact .inl h
  · rcases h2 with h2 | h2
    · exact .inl h2
    · exact .inr ⟨h, h2⟩

theorem size_empty {s : ByteArray} (h : 0 < s.size) : s ≠ ⟨#[]⟩ := by
  rintro rfl
  exact absurd h (by decide)

/-- What holds of all pairs of a leaf. -/
structure OkK (l : List Pr) : Prop where
  ok : ∀ x ∈ l, OkP x
  key : ∀ x ∈ l, 0 < x.1.size
theorem OkK.app {l m : List Pr} : OkK (l ++ m) ↔ OkK l ∧ OkK m :=
  ⟨fun h => ⟨⟨fun x hx => h.ok x (by simp [hx]), fun x hx => h.key x (by simp [hx])⟩, ⟨fun x hx => h.ok x (by simp [hx]), fun x hx => h.key x (by simp [hx])⟩⟩,
   fun h => ⟨fun x hx => (List.mem_append.1 hx).elim (h.1.ok x) (h.2.ok x), fun x hx => (List.mem_append.1 hx).elim (h.1.key x) (h.2.key x)⟩⟩
theorem OkK.take {l : List Pr} (h : OkK l) (k : Nat) : OkK (l.take k) := ⟨fun x hx => h.ok x (List.mem_of_mem_take hx), fun x hx => h.key x (List.mem_of_mem_take hx)⟩
theorem OkK.drop {l : List Pr} (h : OkK l) (k : Nat) : OkK (l.drop k) := ⟨fun x hx => h.ok x (List.mem_of_mem_drop hx), fun x hx => h.key x (List.mem_of_mem_drop hx)⟩
theorem OkK.ins {l : List Pr} {x : Pr} (h : OkK l) (h1 : OkP x) (h2 : 0 < x.1.size) : OkK (ins x l) :=
  ⟨fun y hy => (ins_mem x l y hy).elim (fun e => e ▸ h1) (h.ok y), fun y hy => (ins_mem x l y hy).elim (fun e => e ▸ h2) (h.key y)⟩
/-- Leaves' lists fit. -/
theorem okL0 {l : List Pr} (h : OkK l) (hs : Srt l) (hf : load l ≤ 108) : OkL 0 l := ⟨h.ok, fun _ => h.key, fun e => absurd rfl e, fun k x y hx hy => hs.step k x y hx hy, hf⟩
theorem OkL.okK {l : List Pr} (h : OkL 0 l) : OkK l := ⟨h.ok, h.key0 rfl⟩

/-- Fences of a leaf. -/
structure FenceOk (low high : ByteArray) (next : Nat) : Prop where
  low24 : low.size ≤ 24
  high24 : high.size ≤ 24
  ord : high = ⟨#[]⟩ ∨ (high ≠ ⟨#[]⟩ ∧ cmpS low high < 0)
  nx : next ≤ 511
theorem FenceOk.pg {low high : ByteArray} {next : Nat} (h : FenceOk low high next) {l : List Pr} (hl : OkL 0 l) : PG.Ok ⟨0, low, high, next, l⟩ := ⟨Nat.zero_le _, h.low24, h.high24, h.ord, h.nx, hl⟩
theorem PG.Ok.fence {g : PG} (h : g.Ok) : FenceOk g.low g.high g.next := ⟨h.low24, h.high24, h.ord, h.nx⟩

end Go.Proofs.YtpcaadipejnllaaGreatDoor

/- The plain law of a tree: what its pages are together, and how leaves are replaced by others. -/
set_option linter.unusedVariables false
set_option linter.unusedSimpArgs false
namespace Go.Proofs.YtpcaadipejnllaaGreatDoor
open Go.RowKit

/-- The list of free pages. -/
def Fre (pgs : Nat → List Nat) : Nat → List Nat → Prop
  | fr, [] => fr = 0
  | fr, p :: fl => fr = p ∧ usedB pgs p = false ∧ Fre pgs (wd (pgs p) 10).toNat fl
theorem Fre.far {pgs pgs' : Nat → List Nat} : ∀ {fl : List Nat} {fr : Nat}, Fre pgs fr fl → (∀ p ∈ fl, pgs' p = pgs p) → Fre pgs' fr fl
  | [], _, h, _ => h
  | p :: fl, _, ⟨h1, h2, h3⟩, e => by
    refine ⟨h1, ?_, ?_⟩
    · unfold usedB at h2 ⊢
      rw [e p (by simp)]; exact h2
    · rw [e p (by simp)]
      exact h3.far (fun q hq => e q (by simp [hq]))
theorem Fre.some {pgs : Nat → List Nat} {fl : List Nat} {fr : Nat} (h : Fre pgs fr fl) (hf : fl ≠ []) : ∃ fl', fl = fr :: fl' ∧ usedB pgs fr = false ∧ Fre pgs (wd (pgs fr) 10).toNat fl' := by
  cases fl with
  | nil => exact absurd rfl hf
  | cons p fl =>
    obtain ⟨rfl, h2, h3⟩ := h
    exact ⟨fl, rfl, h2, h3⟩
theorem Fre.give {pgs : Nat → List Nat} {fl : List Nat} {fr n : Nat} (h : Fre pgs fr fl) (hn : n ∉ fl) (hr : 1 ≤ n) : Fre (upd pgs n (freePg fr)) n (n :: fl) := by
  refine ⟨rfl, ?_, ?_⟩
  · unfold usedB upd
    rw [if_pos rfl, freePg_wd]
    rfl
  · have e : (wd (upd pgs n (freePg fr) n) 10).toNat = fr := by
      unfold upd
      rw [if_pos rfl, freePg_wd]
      simp
    rw [e]
    exact h.far (fun p hp => by unfold upd; rw [if_neg (fun e : p = n => hn (e ▸ hp))])
theorem upd_far {pgs : Nat → List Nat} {n p : Nat} {pg : List Nat} (h : p ≠ n) : upd pgs n pg p = pgs p := by unfold upd; rw [if_neg h]
theorem upd_at {pgs : Nat → List Nat} {n : Nat} {pg : List Nat} : upd pgs n pg n = pg := by unfold upd; rw [if_pos rfl]
theorem used_far {pgs pgs' : Nat → List Nat} {p : Nat} (h : pgs' p = pgs p) : usedB pgs' p = usedB pgs p := by unfold usedB; rw [h]
theorem used_is {pgs : Nat → List Nat} {p : Nat} {g : PG} (h : IsPage (pgs p) g) : usedB pgs p = true := by
  have h1 := h.head.kind
  have h2 := h.lvl5
  unfold usedB
  rw [h1]
  simp
  omega

/-- The pages of a tree: leaves, other pages of it, free pages. -/
structure Mid (fr : Nat) (pgs : Nat → List Nat) (ls : List Lf) (ex fl : List Nat) : Prop where
  lvs : Lvs pgs ⟨#[]⟩ 0 ls
  free : Fre pgs fr fl
  perm : ((ex ++ pgsOf ls) ++ fl).Perm (List.range' 1 40)
  low0 : ∃ x r, ls = x :: r ∧ x.low = ⟨#[]⟩
  lows : ∀ x ∈ ls.tail, 0 < x.low.size
  srt : Srt (flat ls)

theorem pgsOf_app (A B : List Lf) : pgsOf (A ++ B) = pgsOf A ++ pgsOf B := by simp [pgsOf]

section
variable {fr fr' : Nat} {pgs pgs' : Nat → List Nat} {ls A B M M' : List Lf} {ex ex' fl fl' : List Nat}
theorem Mid.nd (H : Mid fr pgs ls ex fl) : ((ex ++ pgsOf ls) ++ fl).Nodup := H.perm.nodup_iff.2 List.nodup_range'
theorem Mid.mem (H : Mid fr pgs ls ex fl) (p : Nat) : p ∈ (ex ++ pgsOf ls) ++ fl ↔ 1 ≤ p ∧ p ≤ 40 := by
  rw [H.perm.mem_iff, List.mem_range'_1]
  omega
theorem Mid.len (H : Mid fr pgs ls ex fl) : ex.length + ls.length + fl.length = 40 := by
  have := H.perm.length_eq
  simp [pgsOf] at this
  omega
theorem Mid.used (H : Mid fr pgs ls ex fl) {x : Lf} (hx : x ∈ ls) : usedB pgs x.p = true := by
  have := H.lvs
  obtain ⟨A, B, rfl⟩ := List.append_of_mem hx
  exact used_is (Lvs.app.1 this).2.1.is
theorem Mid.rng (H : Mid fr pgs ls ex fl) {x : Lf} (hx : x ∈ ls) : 1 ≤ x.p ∧ x.p ≤ 40 := (H.mem x.p).1 (by simp [pgsOf]; exact .inr (.inl ⟨x, hx, rfl⟩))
theorem Fre.fr_in {pgs : Nat → List Nat} {fl : List Nat} {fr : Nat} (h : Fre pgs fr fl) : fr = 0 ∨ fr ∈ fl := by
  cases fl with
  | nil => exact .inl h
  | cons p fl => exact .inr (by rw [h.1]; simp)
theorem Mid.fr40 (H : Mid fr pgs ls ex fl) : fr ≤ 40 := by
  rcases H.free.fr_in with h | h
  · omega
  · exact ((H.mem fr).1 (by simp [h])).2
theorem Mid.allok (H : Mid fr pgs ls ex fl) {x : Lf} (hx : x ∈ ls) : OkK x.l ∧ Srt x.l ∧ load x.l ≤ 108 := by
  obtain ⟨A, B, rfl⟩ := List.append_of_mem hx
  have h := (Lvs.app.1 H.lvs).2.1.is.ok
  exact ⟨OkL.okK h, h.srt, h.fit⟩

/-- Leaves are replaced by others in a row, which begin at the same page and fence. -/
theorem Mid.replace (H : Mid fr pgs (A ++ (M ++ B)) ex fl)
    (hh : ∃ a r a' r', M = a :: r ∧ M' = a' :: r' ∧ a'.p = a.p ∧ a'.low = a.low)
    (hl : Lvs pgs' (hiL ⟨#[]⟩ B) (nxL 0 B) M') (far : ∀ p, p ∉ pgsOf M → p ∉ pgsOf M' → p ∉ ex' → pgs' p = pgs p) (hf : Fre pgs' fr' fl')
    (hp : ((ex ++ pgsOf M) ++ fl).Perm ((ex' ++ pgsOf M') ++ fl')) (hlow : ∀ x ∈ M'.tail, 0 < x.low.size)
    (hs : Srt (flat A ++ (flat M' ++ flat B))) (hex : ∀ p, p ∈ ex' → p ∈ ex ++ fl) : Mid fr' pgs' (A ++ (M' ++ B)) ex' fl' := by
  obtain ⟨a, r, a', r', rfl, rfl, e1, e2⟩ := hh
  obtain ⟨hA, hMB⟩ := Lvs.app.1 H.lvs
  obtain ⟨hM, hB⟩ := Lvs.app.1 hMB
  have hnd := H.nd
  have hsub : ∀ p, p ∈ pgsOf (a' :: r') → p ∈ (ex ++ pgsOf (a :: r)) ++ fl := fun p hp' => (hp.mem_iff (a := p)).2 (by simp only [List.mem_append]; exact .inl (.inr hp'))
  have hfarA : ∀ x, x ∈ A ∨ x ∈ B → pgs' x.p = pgs x.p := fun x hx => by
    have hc : (((ex ++ pgsOf (A ++ (a :: r ++ B))) ++ fl)).count x.p ≤ 1 := List.nodup_iff_count.1 hnd x.p
    rw [pgsOf_app, pgsOf_app] at hc
    simp only [List.count_append] at hc
    have hc1 : 1 ≤ (pgsOf A).count x.p + (pgsOf B).count x.p := by
      rcases hx with h | h
      · have := List.count_pos_iff.2 (show x.p ∈ pgsOf A from List.mem_map.2 ⟨x, h, rfl⟩); omega
      · have := List.count_pos_iff.2 (show x.p ∈ pgsOf B from List.mem_map.2 ⟨x, h, rfl⟩); omega
    have n1 : x.p ∉ pgsOf (a :: r) := fun h => by have := List.count_pos_iff.2 h; omega
    have n2 : x.p ∉ fl := fun h => by have := List.count_pos_iff.2 h; omega
    have n3 : x.p ∉ ex := fun h => by have := List.count_pos_iff.2 h; omega
    refine far _ n1 (fun h => ?_) (fun h => ?_)
    · have := hsub _ h
      simp only [List.mem_append] at this
      rcases this with (h | h) | h
      · exact n3 h
      · exact n1 h
      · exact n2 h
    · have := hex _ h
      simp only [List.mem_append] at this
      exact this.elim n3 n2
  refine ⟨?_, hf, ?_, ?_, ?_, ?_⟩
  · refine Lvs.app.2 ⟨?_, Lvs.app.2 ⟨hl, hB.far (fun x hx => hfarA x (.inr hx))⟩⟩
    have := hA.far (pgs' := pgs') (fun x hx => hfarA x (.inl hx))
    show Lvs pgs' a'.low a'.p A
    rw [e1, e2]
    exact this
  · refine List.Perm.trans ?_ H.perm
    rw [List.perm_iff_count]
    intro p
    have := (List.perm_iff_count.1 hp) p
    simp only [pgsOf_app, List.count_append] at this ⊢
    omega
  · obtain ⟨x, q, hx, hlow0⟩ := H.low0
    cases A with
    | nil =>
      simp at hx
      exact ⟨a', r' ++ B, rfl, by rw [e2, hx.1]; exact hlow0⟩
    | cons z A =>
      simp at hx
      exact ⟨z, A ++ (a' :: r' ++ B), rfl, by rw [hx.1]; exact hlow0⟩
  · have h1 := H.lows
    cases A with
    | nil =>
      intro x hx
      simp at hx h1
      rcases hx with hx | hx
      · exact hlow x hx
      · exact h1 x (.inr hx)
    | cons z A =>
      intro x hx
      simp at hx h1
      rcases hx with hx | hx | hx | hx
      · exact h1 x (.inl hx)
      · rw [hx, e2]; exact h1 a (.inr (.inl rfl))
      · exact hlow x hx
      · exact h1 x (.inr (.inr (.inr hx)))
  · rw [flat_app, flat_app]
    exact hs
end

end Go.Proofs.YtpcaadipejnllaaGreatDoor

/- The plain law of a tree: a leaf is written, divided, merged, evened. -/
set_option linter.unusedVariables false
set_option linter.unusedSimpArgs false
namespace Go.Proofs.YtpcaadipejnllaaGreatDoor
open Go.RowKit

/-- Pairs that may stand between two fences. -/
structure NewL (low hi : ByteArray) (l : List Pr) : Prop where
  k : OkK l
  s : Srt l
  i : ∀ x ∈ l, Ins low hi x.1
theorem LfOk.new {pg : List Nat} {low hi : ByteArray} {n : Nat} {l : List Pr} (h : LfOk pg ⟨0, low, hi, n, l⟩) : NewL low hi l := ⟨OkL.okK h.is.ok, h.is.ok.srt, h.ins⟩
theorem NewL.lf {pg : List Nat} {low hi : ByteArray} {n : Nat} {l : List Pr} (h : NewL low hi l) (hP : IsPage pg ⟨0, low, hi, n, l⟩) (hF : FenceOk low hi n) : LfOk pg ⟨0, low, hi, n, l⟩ :=
  ⟨hP, hF.pg hP.ok, h.i⟩

theorem Ins.lt_high {low high k : ByteArray} (h : Ins low high k) : high = ⟨#[]⟩ ∨ (high ≠ ⟨#[]⟩ ∧ cmpS k high < 0) := by
  rcases h.2 with e | ⟨e1, e2⟩
  · exact .inl (empty_of e)
  · exact .inr ⟨size_empty e1, e2⟩
theorem Ins.of {low high k : ByteArray} (h1 : cmpS low k ≤ 0) (h2 : high = ⟨#[]⟩ ∨ (high ≠ ⟨#[]⟩ ∧ cmpS k high < 0)) : Ins low high k := by
  refine Ins.keys h1 ?_
  rcases h2 with e | ⟨_, e⟩
  · left; rw [e]; rfl
  · exact .inr e

section
variable {low hi : ByteArray} {l : List Pr} {k : Nat} {y : Pr}
theorem NewL.cut (h : NewL low hi l) (h1 : 1 ≤ k) (hy : l[k]? = some y) : NewL low y.1 (l.take k) ∧ NewL y.1 hi (l.drop k) ∧ cmpS low y.1 < 0 ∧ 0 < y.1.size ∧ y.1.size ≤ 24 := by
  have hym : y ∈ l := List.mem_of_getElem? hy
  have hkl := (List.getElem?_eq_some_iff.1 hy).1
  have hsz := h.k.key y hym
  have hd : l.drop k = y :: l.drop (k + 1) := by
    rw [List.drop_eq_getElem_cons hkl]
    congr 1
    exact (List.getElem?_eq_some_iff.1 hy).2
  have hall : l.take k ++ l.drop k = l := List.take_append_drop k l
  have hS : Srt (l.take k ++ l.drop k) := by rw [hall]; exact h.s
  obtain ⟨z, hz⟩ : ∃ z, l[0]? = some z := ⟨_, List.getElem?_eq_getElem (by omega)⟩
  have hzy := h.s 0 k z y (by omega) hz hy
  refine ⟨⟨h.k.take k, hS.appL, fun x hx => ?_⟩, ⟨h.k.drop k, hS.appR, fun x hx => ?_⟩, cmp_le_lt (h.i z (List.mem_of_getElem? hz)).1 hzy, hsz, (h.k.ok y hym).k⟩
  · exact Ins.of (h.i x (List.mem_of_mem_take hx)).1 (.inr ⟨size_empty hsz, hS.sep hx (by rw [hd]; simp)⟩)
  · refine Ins.of ?_ (h.i x (List.mem_of_mem_drop hx)).lt_high
    have hR := hS.appR
    rw [hd] at hx hR
    rcases List.mem_cons.1 hx with e | hx
    · rw [e, cmp_refl]; exact Int.le_refl _
    · exact Int.le_of_lt (hR.head hx)
theorem NewL.fence_cut (h : NewL low hi l) (h1 : 1 ≤ k) (hy : l[k]? = some y) {n m : Nat} (hF : FenceOk low hi n) (hm : m ≤ 511) : FenceOk low y.1 m ∧ FenceOk y.1 hi n := by
  obtain ⟨_, _, c1, c2, c3⟩ := h.cut h1 hy
  exact ⟨⟨hF.low24, c3, .inr ⟨size_empty c2, c1⟩, hm⟩, ⟨c3, hF.high24, (h.i y (List.mem_of_getElem? hy)).lt_high, hF.nx⟩⟩
theorem NewL.join {mid : ByteArray} {m : List Pr} (h1 : NewL low mid l) (h2 : NewL mid hi m) (hm : 0 < mid.size) (hlm : cmpS low mid < 0) (hmh : hi = ⟨#[]⟩ ∨ (hi ≠ ⟨#[]⟩ ∧ cmpS mid hi < 0)) : NewL low hi (l ++ m) := by
  have hlt : ∀ x ∈ l, cmpS x.1 mid < 0 := fun x hx => by
    rcases (h1.i x hx).2 with e | ⟨_, e⟩
    · omega
    · exact e
  refine ⟨OkK.app.2 ⟨h1.k, h2.k⟩, h1.s.app h2.s (fun a ha b hb => cmp_lt_le (hlt a ha) (h2.i b hb).1), fun x hx => ?_⟩
  rcases List.mem_append.1 hx with hx | hx
  · refine Ins.of (h1.i x hx).1 (hmh.imp id (fun e => ⟨e.1, cmp_trans (hlt x hx) e.2⟩))
  · exact Ins.of (Int.le_of_lt (cmp_lt_le hlm (h2.i x hx).1)) (h2.i x hx).lt_high
end

section
variable {fr : Nat} {pgs : Nat → List Nat} {A B : List Lf} {ex fl : List Nat} {a b x : Lf} {l la lb : List Pr} {k : Nat} {y : Pr} {pg pgA pgB : List Nat}
theorem Mid.fence (H : Mid fr pgs (A ++ (x :: B)) ex fl) : LfOk (pgs x.p) (pgL x (hiL ⟨#[]⟩ B) (nxL 0 B)) ∧ FenceOk x.low (hiL ⟨#[]⟩ B) (nxL 0 B) := by
  have h := (Lvs.app.1 H.lvs).2.1
  exact ⟨h, h.ok.fence⟩
theorem count_le {p : Nat} (H : Mid fr pgs (A ++ (x :: B)) ex fl) : ((ex ++ pgsOf (A ++ (x :: B))) ++ fl).count p ≤ 1 := List.nodup_iff_count.1 H.nd p
theorem Mid.nfl {ls : List Lf} (H : Mid fr pgs ls ex fl) {x : Lf} (hx : x ∈ ls) : x.p ∉ fl := fun h => by
  have h1 := List.nodup_iff_count.1 H.nd x.p
  have h2 := List.count_pos_iff.2 h
  have h3 := List.count_pos_iff.2 (show x.p ∈ pgsOf ls from List.mem_map.2 ⟨x, hx, rfl⟩)
  simp only [List.count_append] at h1
  omega

theorem Mid.write (H : Mid fr pgs (A ++ ([x] ++ B)) ex fl) (hN : NewL x.low (hiL ⟨#[]⟩ B) l) (hs : Srt (flat A ++ (l ++ flat B)))
    (hP : IsPage pg ⟨0, x.low, hiL ⟨#[]⟩ B, nxL 0 B, l⟩) : Mid fr (upd pgs x.p pg) (A ++ ([⟨x.p, x.low, l⟩] ++ B)) ex fl := by
  have hF := (Mid.fence (x := x) H).2
  refine H.replace ⟨x, [], _, [], rfl, rfl, rfl, rfl⟩ ⟨?_, trivial⟩ (fun p h _ _ => upd_far (by simpa [pgsOf] using h)) ?_ ?_ (by simp) (by simpa [flat] using hs) (fun p hp => by simp [hp])
  · show LfOk (upd pgs x.p pg x.p) _
    rw [upd_at]
    exact hN.lf hP hF
  · refine H.free.far (fun p hp => upd_far (fun e => ?_))
    exact H.nfl (x := x) (by simp) (e ▸ hp)
  · simp [pgsOf]

theorem Mid.split (H : Mid fr pgs (A ++ ([x] ++ B)) ex fl) (hfl : fl ≠ []) (hN : NewL x.low (hiL ⟨#[]⟩ B) l) (hs : Srt (flat A ++ (l ++ flat B))) (hk : 1 ≤ k) (hy : l[k]? = some y)
    (hA : IsPage pgA ⟨0, x.low, y.1, fr, l.take k⟩) (hB : IsPage pgB ⟨0, y.1, hiL ⟨#[]⟩ B, nxL 0 B, l.drop k⟩) :
    ∃ fl', fl = fr :: fl' ∧ fr ≠ x.p ∧ Mid (wd (pgs fr) 10).toNat (upd (upd pgs fr pgB) x.p pgA) (A ++ ([⟨x.p, x.low, l.take k⟩, ⟨fr, y.1, l.drop k⟩] ++ B)) ex fl' := by
  have hF := (Mid.fence (x := x) H).2
  obtain ⟨fl', rfl, hu, hfree⟩ := H.free.some hfl
  have hne : fr ≠ x.p := fun e => H.nfl (x := x) (by simp) (by simp [e])
  have hfr := H.fr40
  obtain ⟨F1, F2⟩ := hN.fence_cut hk hy hF (m := fr) (by omega)
  obtain ⟨c1, c2, c3, c4, c5⟩ := hN.cut hk hy
  refine ⟨fl', rfl, hne, H.replace ⟨x, [], _, _, rfl, rfl, rfl, rfl⟩ ⟨?_, ?_, trivial⟩ (fun p h1 h2 _ => ?_) ?_ ?_ (by simp [c4]) ?_ (fun p hp => by simp [hp])⟩
  · show LfOk (upd (upd pgs fr pgB) x.p pgA x.p) _
    rw [upd_at]
    exact c1.lf hA F1
  · show LfOk (upd (upd pgs fr pgB) x.p pgA fr) _
    rw [upd_far hne, upd_at]
    exact c2.lf hB F2
  · simp [pgsOf] at h1 h2
    rw [upd_far h1, upd_far h2.2]
  · refine hfree.far (fun p hp => ?_)
    have hnd := H.nd
    rw [upd_far (fun e => H.nfl (x := x) (by simp) (by simp [← e, hp])), upd_far (fun e => ?_)]
    subst e
    have := (List.nodup_append.1 hnd).2.1
    simp at this
    exact this.1 hp
  · rw [List.perm_iff_count]
    intro p
    simp [pgsOf, List.count_cons] <;> omega
  · have : flat [⟨x.p, x.low, l.take k⟩, ⟨fr, y.1, l.drop k⟩] = l := by simp [flat]
    rw [this]
    exact hs

theorem Mid.two (H : Mid fr pgs (A ++ ([a, b] ++ B)) ex fl) : LfOk (pgs a.p) (pgL a b.low b.p) ∧ LfOk (pgs b.p) (pgL b (hiL ⟨#[]⟩ B) (nxL 0 B)) ∧ 0 < b.low.size ∧ cmpS a.low b.low < 0 ∧ a.p ≠ b.p := by
  have h := (Lvs.app.1 H.lvs).2
  have hb : 0 < b.low.size := by
    refine H.lows b ?_
    cases A with
    | nil => simp
    | cons z A => simp
  refine ⟨h.1, h.2.1, hb, ?_, fun e => ?_⟩
  · rcases h.1.ok.ord with e | ⟨_, e⟩
    · have e : b.low = ⟨#[]⟩ := e
      exact absurd e (size_empty hb)
    · exact e
  · have h1 := List.nodup_iff_count.1 H.nd a.p
    simp [pgsOf, List.count_append, List.count_cons, e] at h1
    omega

theorem Mid.merge (H : Mid fr pgs (A ++ ([a, b] ++ B)) ex fl) (hNa : NewL a.low b.low la) (hNb : NewL b.low (hiL ⟨#[]⟩ B) lb) (hs : Srt (flat A ++ ((la ++ lb) ++ flat B)))
    (hP : IsPage pg ⟨0, a.low, hiL ⟨#[]⟩ B, nxL 0 B, la ++ lb⟩) : Mid b.p (upd (upd pgs a.p pg) b.p (freePg fr)) (A ++ ([⟨a.p, a.low, la ++ lb⟩] ++ B)) ex (b.p :: fl) := by
  obtain ⟨t1, t2, t3, t4, t5⟩ := H.two
  have hN := hNa.join hNb t3 t4 t2.ok.ord
  have F2 := t2.ok.fence
  have F1 := t1.ok.fence
  have hF : FenceOk a.low (hiL ⟨#[]⟩ B) (nxL 0 B) := ⟨F1.low24, F2.high24, by
    have := F2.ord
    exact this.imp id (fun e => ⟨e.1, cmp_trans t4 e.2⟩), F2.nx⟩
  have hbr := H.rng (x := b) (by simp)
  refine H.replace ⟨a, [b], _, [], rfl, rfl, rfl, rfl⟩ ⟨?_, trivial⟩ (fun p h1 h2 _ => ?_) ?_ ?_ (by simp) (by simpa [flat] using hs) (fun p hp => by simp [hp])
  · show LfOk (upd (upd pgs a.p pg) b.p (freePg fr) a.p) _
    rw [upd_far t5, upd_at]
    exact hN.lf hP hF
  · simp [pgsOf] at h1
    rw [upd_far h1.2, upd_far h1.1]
  · refine Fre.give (H.free.far (fun p hp => upd_far (fun e => H.nfl (x := a) (by simp) (e ▸ hp)))) (H.nfl (x := b) (by simp)) hbr.1
  · rw [List.perm_iff_count]
    intro p
    simp [pgsOf, List.count_cons] <;> omega

theorem Mid.even (H : Mid fr pgs (A ++ ([a, b] ++ B)) ex fl) (hNa : NewL a.low b.low la) (hNb : NewL b.low (hiL ⟨#[]⟩ B) lb) (hs : Srt (flat A ++ ((la ++ lb) ++ flat B))) (hk : 1 ≤ k) (hy : (la ++ lb)[k]? = some y)
    (hA : IsPage pgA ⟨0, a.low, y.1, b.p, (la ++ lb).take k⟩) (hB : IsPage pgB ⟨0, y.1, hiL ⟨#[]⟩ B, nxL 0 B, (la ++ lb).drop k⟩) :
    Mid fr (upd (upd pgs a.p pgA) b.p pgB) (A ++ ([⟨a.p, a.low, (la ++ lb).take k⟩, ⟨b.p, y.1, (la ++ lb).drop k⟩] ++ B)) ex fl := by
  obtain ⟨t1, t2, t3, t4, t5⟩ := H.two
  have hN := hNa.join hNb t3 t4 t2.ok.ord
  have F2 := t2.ok.fence
  have F1 := t1.ok.fence
  have hF : FenceOk a.low (hiL ⟨#[]⟩ B) (nxL 0 B) := ⟨F1.low24, F2.high24, by
    have := F2.ord
    exact this.imp id (fun e => ⟨e.1, cmp_trans t4 e.2⟩), F2.nx⟩
  have hbr := H.rng (x := b) (by simp)
  obtain ⟨G1, G2⟩ := hN.fence_cut hk hy hF (m := b.p) (by omega)
  obtain ⟨c1, c2, c3, c4, c5⟩ := hN.cut hk hy
  refine H.replace ⟨a, [b], _, _, rfl, rfl, rfl, rfl⟩ ⟨?_, ?_, trivial⟩ (fun p h1 h2 _ => ?_) ?_ ?_ (by simp [c4]) ?_ (fun p hp => by simp [hp])
  · show LfOk (upd (upd pgs a.p pgA) b.p pgB a.p) _
    rw [upd_far t5, upd_at]
    exact c1.lf hA G1
  · show LfOk (upd (upd pgs a.p pgA) b.p pgB b.p) _
    rw [upd_at]
    exact c2.lf hB G2
  · simp [pgsOf] at h1
    rw [upd_far h1.2, upd_far h1.1]
  · refine H.free.far (fun p hp => ?_)
    rw [upd_far (fun e : p = b.p => H.nfl (x := b) (by simp) (e ▸ hp)), upd_far (fun e : p = a.p => H.nfl (x := a) (by simp) (e ▸ hp))]
  · rw [List.perm_iff_count]
    intro p
    simp [pgsOf, List.count_cons]
  · have : flat [⟨a.p, a.low, (la ++ lb).take k⟩, ⟨b.p, y.1, (la ++ lb).drop k⟩] = la ++ lb := by
      show (la ++ lb).take k ++ ((la ++ lb).drop k ++ []) = la ++ lb
      rw [List.append_nil, List.take_append_drop]
    rw [this]
    exact hs
end

end Go.Proofs.YtpcaadipejnllaaGreatDoor
