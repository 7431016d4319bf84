/- The key and the value of a row. -/
import Derived.Test.YtpcaadipejnllaaGreatDoorPart11

set_option linter.unusedVariables false
set_option linter.unusedSimpArgs false
namespace Go.Proofs.YtpcaadipejnllaaGreatDoor
open Go.RowKit

theorem cls_app (l m : List Cl) : cls (l ++ m) = cls l ++ cls m := List.flatMap_append
theorem Sl.take5 {w : World} {l : List Cl} {A : Option Addr} {c k : Nat} (h : Sl w 5 (.slice A l.length c) l.length (cls l)) (hk : k ≤ l.length) : Sl w 5 (.slice A k c) (l.take k).length (cls (l.take k)) := by
  have hl : (l.take k).length = k := by rw [List.length_take, Nat.min_eq_left hk]
  obtain ⟨_, A', c', e, h1, h2, h3⟩ := h
  injection e with e1 e2 e3
  subst e1 e3
  rw [hl]
  refine ⟨by rw [cls_len, hl], A, c, rfl, by omega, h2, ?_⟩
  rcases Nat.eq_zero_or_pos k with h0 | h0
  · exact .inl h0
  · rcases h3 with h3 | ⟨b, o, e, hb, hx⟩
    · omega
    · refine .inr ⟨b, o, e, hb, fun j hj => ?_⟩
      rw [hx j (by omega)]
      conv => lhs; rw [← List.take_append_drop k l]
      rw [cls_app, List.getElem?_append_left (by rw [cls_len, hl]; omega)]
theorem Sl.drop5 {w : World} {l : List Cl} {b o c k : Nat} (h : Sl w 5 (.slice (some ⟨b, o, none⟩) l.length c) l.length (cls l)) (hk : k < l.length) : Sl w 5 (.slice (some ⟨b, o + k * 5, none⟩) (l.length - k) (c - k)) (l.drop k).length (cls (l.drop k)) := by
  have hl : (l.drop k).length = l.length - k := List.length_drop
  obtain ⟨_, A', c', e, h1, h2, h3⟩ := h
  injection e with e1 e2 e3
  subst e1 e3
  rw [hl]
  refine ⟨by rw [cls_len, hl], _, _, rfl, by omega, by omega, .inr ?_⟩
  rcases h3 with h3 | ⟨b', o', e, hb, hx⟩
  · omega
  · injection e with e
    injection e with e1 e2
    subst e1 e2
    refine ⟨b, o + k * 5, rfl, hb, fun j hj => ?_⟩
    have hlt : (cls (l.take k)).length = k * 5 := by rw [cls_len, List.length_take, Nat.min_eq_left (by omega)]
    rw [Nat.add_assoc, hx _ (by omega)]
    conv => lhs; rw [← List.take_append_drop k l]
    rw [cls_app, List.getElem?_append_right (by omega), hlt, Nat.add_sub_cancel_left]
theorem below_blk {w w' : World} {b B : Nat} {ty : TypeId} {cs : Array Value} (h : Blk w b ty cs) (hB : Below B w w') (hb : b < B) : Blk w' b ty cs := (hB.block b hb).trans h
theorem Sl.zero (w : World) (A : Option Addr) (c : Nat) (hc : c ≤ maxLen) : Sl w 5 (.slice A 0 c) 0 [] := ⟨rfl, A, c, rfl, Nat.zero_le _, hc, .inl rfl⟩

/-- The bytes of a row's key and of its value. -/
def rkey (t : Tb) (l : List Cl) : ByteArray := ⟨(UInt8.ofNat t.n :: encs (l.take t.k.length)).toArray⟩
def rval (t : Tb) (l : List Cl) : ByteArray := ⟨(encs (l.drop t.k.length)).toArray⟩

/-- A row of a table. -/
structure RowOk (t : Tb) (l : List Cl) : Prop where
  tb : t.Ok
  kd : l.map Cl.kd = t.k ++ t.r
  ok : ∀ c ∈ l, c.Ok
theorem RowOk.len {t : Tb} {l : List Cl} (h : RowOk t l) : l.length = t.k.length + t.r.length := by
  have := congrArg List.length h.kd
  simpa using this

set_option maxRecDepth 100000 in
set_option maxHeartbeats 1000000 in
theorem row_w (t : Tb) (vk vr v : Value) (l : List Cl) (w : World) (hR : RowOk t l) (h1 : KS w vk t.k) (h2 : KS w vr t.r) (hS : Sl w 5 v l.length (cls l)) (hv : ∀ k, v.ownBlock = some k → k < w.heap.size) (hG : Gv w) (hk24 : (rkey t l).size ≤ 24) (hv40 : (rval t l).size ≤ 40) :
    Calls Tryz.prog 11 #[.agg (tbV t vk vr), v] w fun e w' => e = .returned (.tuple #[.string (rkey t l), .string (rval t l), .int .i64 0]) ∧ Chg [] w w' := by
  have hlen := hR.len
  obtain ⟨ht, hkd, hok⟩ := hR
  have htt := ht
  obtain ⟨n1, n2, k0, k8, r8, kk, rk⟩ := ht
  obtain ⟨A1, c1, rfl, hc1, hm1⟩ := h1.form
  obtain ⟨A2, c2, rfl, hc2, hm2⟩ := h2.form
  obtain ⟨A, c, rfl, hc, hm⟩ := hS.form
  obtain ⟨s, o, rfl, hs, _⟩ := hS.at_ (by omega)
  have hB : Blk (w.alloc (.cells (tbV t (.slice A1 t.k.length c1) (.slice A2 t.r.length c2)) 37)) w.heap.size 37 (tbV t (.slice A1 t.k.length c1) (.slice A2 t.r.length c2)) := Blk.new _ _ _
  have hC0 : Chg [] w (w.alloc (.cells (tbV t (.slice A1 t.k.length c1) (.slice A2 t.r.length c2)) 37)) := (Chg.refl _ _).alloc _
  have hdk : decide ((24 : Int) < ((rkey t l).size : Int)) = false := decide_eq_false (by omega)
  have hdv : decide ((40 : Int) < ((rval t l).size : Int)) = false := decide_eq_false (by omega)
  have Hkd := Lib.hid hkd
  have Hlen := Lib.hid hlen
  have hl100 : l.length ≤ 100 := by omega
  have hl12 : (t.k ++ t.r).length ≤ 100 ∧ 0 < (t.k ++ t.r).length := by simp; omega
  clear hkd hlen
  go_enter Tryz.func11, Tryz.ntmps11
  go_upto_region 3 with (first
    | (refine wpList_load_row rfl 37 (.tmp 2) rfl w.heap.size rfl 37 _ (0, 0) _ hB Tryz.underlying37 rfl (by kernel_rfl) ?_)
    | (go_at_call 28; go_loud (refine (valid_t t _ _ _ htt (h1.ext hC0) (h2.ext hC0)).mono ?_; rintro e w1 ⟨rfl, hC1⟩; have hCC1 := hC0.trans hC1; have b1 : _ = some (Value.slice A1 t.k.length c1) := (hB.ext hC1).cell 1; have b2 : _ = some (Value.slice A2 t.r.length c2) := (hB.ext hC1).cell 2))
    | (go_at_call 30; go_loud (refine (concatk_w t.k t.r _ _ _ _ (Blk.new w1 35 _) ((h1.ext hCC1).alloc _) ((h2.ext hCC1).alloc _) k0 (by omega) (by omega)).mono ?_; rintro e w2 ⟨v', rfl, hown2, hC2⟩; have hCC2 := (hCC1.alloc _).trans hC2; have hKS := KS.own hown2 hl12.2; rw [← Hkd.out] at hKS))
    | (go_at_call 29; go_loud (refine (are_w l _ _ _ (hS.ext hCC2) hKS hl100).mono ?_; rintro e w3 ⟨rfl, hC3⟩)))
  have hlen := Hlen.out
  have hT : Blk w3 w.heap.size 37 _ := (((hB.ext hC1).alloc _).ext hC2).ext hC3
  have hC3w : Chg [] w w3 := hCC2.trans hC3
  have hs3 := hC3w.size
  have hwT := hT.lt
  have hG3 : Gv w3 := hG.chg hC3w (by simp)
  have hS3 := hS.ext hC3w
  have hwn : IntKind.u8.wrap (t.n : Int) = (t.n : Int) := by rw [IntKind.wrap_u8]; omega
  have hby : bys [UInt8.ofNat t.n] = [.int .u8 (t.n : Int)] := by simp [bys]; omega
  have hT5 := (hT.alloc (.cells #[.int .u8 (t.n : Int)] 5)).drew
  have hown5 : ((w3.alloc (.cells #[.int .u8 (t.n : Int)] 5)).drew).ownsRow w3.heap.size 5 1 (.slice (some ⟨w3.heap.size, 0, none⟩) 1 1) [UInt8.ofNat t.n].length (bys [UInt8.ofNat t.n]) := by
    rw [hby]
    exact ⟨rfl, .inr ⟨w3.heap.size, 1, _, rfl, Nat.le_refl _, Blk.drew (Blk.new w3 5 #[.int .u8 (t.n : Int)]), Nat.le_refl _, by decide, rfl, rfl⟩⟩
  have hS5 : Sl ((w3.alloc (.cells #[.int .u8 (t.n : Int)] 5)).drew) 5 (.slice (some ⟨s, o, none⟩) t.k.length c) (l.take t.k.length).length (cls (l.take t.k.length)) := (hS3.ext (((Chg.refl [] w3).alloc _).drew)).take5 (by omega)
  have hG5 : Gv ((w3.alloc (.cells #[.int .u8 (t.n : Int)] 5)).drew) := hG3.chg (((Chg.refl [] w3).alloc _).drew) (by simp)
  have hsw : s < w.heap.size := hs
  have hv5 : ∀ k, (Value.slice (some ⟨s, o, none⟩) t.k.length c).ownBlock = some k → k < w3.heap.size := fun k hk => by have := hv k hk; omega
  have hkl : t.k.length ≤ c := by omega
  have hk64 : t.k.length ≤ l.length := by omega
  clear hlen b1 b2
  obtain ⟨v2, hv2⟩ : ∃ v2, v2 = if c = t.k.length then Value.slice (some ⟨s, o, none⟩) (l.length - t.k.length) (c - t.k.length) else Value.slice (some ⟨s, o + t.k.length * 5, none⟩) (l.length - t.k.length) (c - t.k.length) := ⟨_, rfl⟩
  have hS2 : ∀ w', Chg [] w3 w' → Sl w' 5 v2 (l.drop t.k.length).length (cls (l.drop t.k.length)) := fun w' hC' => by
    rw [hv2]
    by_cases hck : t.k.length < l.length
    · rw [if_neg (by omega)]
      exact (hS3.ext hC').drop5 hck
    · have hle : l.length = t.k.length := by omega
      have hdr : l.drop t.k.length = [] := List.drop_eq_nil_of_le (by omega)
      rw [hdr, hle, Nat.sub_self]
      split
      · exact Sl.zero _ _ _ (by omega)
      · exact Sl.zero _ _ _ (by omega)
  have hb2 : ∀ k, v2.ownBlock = some k → k = s := fun k hk => by
    rw [hv2] at hk
    split at hk <;> (have : s = k := by simpa [Value.ownBlock] using hk) <;> exact this.symm
  have Hv2 := Lib.hid hv2
  clear hv2
  refine wp_region_held_drew (S := fun W => Blk W w.heap.size 37 (tbV t (.slice A1 t.k.length c1) (.slice A2 t.r.length c2))) (by kernel_rfl) (hT.drew) (fun hH => ?_)
  refine wpAnyH_take (i := 0) (v := .pointer (some ⟨w.heap.size, 0, none⟩)) rfl (by kernel_rfl) (by kernel_rfl) (by kernel_rfl) (fun _ _ _ h => h) (Or.inl ⟨by rfl, fun w' hw' => by go_simp⟩) hH ?_
  try simp only [List.getElem_toArray, List.getElem_cons_succ, List.getElem_cons_zero, Act.put, List.setIfInBounds_toArray, List.set_cons_zero, List.set_cons_succ]
  refine wpAnyH_take (i := 1) (v := .int .i64 t.n) rfl (by kernel_rfl) (by kernel_rfl) (by kernel_rfl) (fun _ _ _ h => h) (yieldsIf_load_cell (by rfl) 3 _ rfl (w.heap.size) (0) rfl _ (fun w' hw' => Blk.cell hw' 0) (fun w => Tryz.isAgg3 w)) hH ?_
  try simp only [List.getElem_toArray, List.getElem_cons_succ, List.getElem_cons_zero, Act.put, List.setIfInBounds_toArray, List.set_cons_zero, List.set_cons_succ]
  refine wpAnyH_take (i := 2) (v := .int .u8 t.n) rfl (by kernel_rfl) (by kernel_rfl) (by kernel_rfl) (fun _ _ _ h => h) (Or.inl ⟨by rfl, fun w' hw' => by go_simp⟩) hH ?_
  try simp only [List.getElem_toArray, List.getElem_cons_succ, List.getElem_cons_zero, Act.put, List.setIfInBounds_toArray, List.set_cons_zero, List.set_cons_succ]
  refine wpAnyH_take (i := 4) (v := .slice (some ⟨s, o, none⟩) l.length c) rfl (by kernel_rfl) (by kernel_rfl) (by kernel_rfl) (fun _ _ _ h => h) (Or.inl ⟨by rfl, fun w' hw' => by go_simp⟩) hH ?_
  try simp only [List.getElem_toArray, List.getElem_cons_succ, List.getElem_cons_zero, Act.put, List.setIfInBounds_toArray, List.set_cons_zero, List.set_cons_succ]
  refine wpAnyH_take (i := 5) (v := .pointer (some ⟨w.heap.size, 1, none⟩)) rfl (by kernel_rfl) (by kernel_rfl) (by kernel_rfl) (fun _ _ _ h => h) (Or.inl ⟨by rfl, fun w' hw' => by go_simp⟩) hH ?_
  try simp only [List.getElem_toArray, List.getElem_cons_succ, List.getElem_cons_zero, Act.put, List.setIfInBounds_toArray, List.set_cons_zero, List.set_cons_succ]
  refine wpAnyH_take (i := 6) (v := .slice A1 t.k.length c1) rfl (by kernel_rfl) (by kernel_rfl) (by kernel_rfl) (fun _ _ _ h => h) (yieldsIf_load_cell (by rfl) 35 _ rfl (w.heap.size) (1) rfl _ (fun w' hw' => Blk.cell hw' 1) (fun w => Tryz.isAgg35 w)) hH ?_
  try simp only [List.getElem_toArray, List.getElem_cons_succ, List.getElem_cons_zero, Act.put, List.setIfInBounds_toArray, List.set_cons_zero, List.set_cons_succ]
  refine wpAnyH_take (i := 7) (v := .int .i64 t.k.length) rfl (by kernel_rfl) (by kernel_rfl) (by kernel_rfl) (fun _ _ _ h => h) (Or.inl ⟨by rfl, fun w' hw' => by go_simp⟩) hH ?_
  try simp only [List.getElem_toArray, List.getElem_cons_succ, List.getElem_cons_zero, Act.put, List.setIfInBounds_toArray, List.set_cons_zero, List.set_cons_succ]
  refine wpAnyH_take (i := 8) (v := .slice (some ⟨s, o, none⟩) t.k.length c) rfl (by kernel_rfl) (by kernel_rfl) (by kernel_rfl) (fun _ _ _ h => h) (Or.inl ⟨by rfl, fun w' hw' => by go_simp⟩) hH ?_
  try simp only [List.getElem_toArray, List.getElem_cons_succ, List.getElem_cons_zero, Act.put, List.setIfInBounds_toArray, List.set_cons_zero, List.set_cons_succ]
  refine wpAnyH_take (i := 10) (v := .slice (some ⟨s, o, none⟩) l.length c) rfl (by kernel_rfl) (by kernel_rfl) (by kernel_rfl) (fun _ _ _ h => h) (Or.inl ⟨by rfl, fun w' hw' => by go_simp⟩) hH ?_
  try simp only [List.getElem_toArray, List.getElem_cons_succ, List.getElem_cons_zero, Act.put, List.setIfInBounds_toArray, List.set_cons_zero, List.set_cons_succ]
  refine wpAnyH_take (i := 11) (v := .pointer (some ⟨w.heap.size, 1, none⟩)) rfl (by kernel_rfl) (by kernel_rfl) (by kernel_rfl) (fun _ _ _ h => h) (Or.inl ⟨by rfl, fun w' hw' => by go_simp⟩) hH ?_
  try simp only [List.getElem_toArray, List.getElem_cons_succ, List.getElem_cons_zero, Act.put, List.setIfInBounds_toArray, List.set_cons_zero, List.set_cons_succ]
  refine wpAnyH_take (i := 12) (v := .slice A1 t.k.length c1) rfl (by kernel_rfl) (by kernel_rfl) (by kernel_rfl) (fun _ _ _ h => h) (yieldsIf_load_cell (by rfl) 35 _ rfl (w.heap.size) (1) rfl _ (fun w' hw' => Blk.cell hw' 1) (fun w => Tryz.isAgg35 w)) hH ?_
  try simp only [List.getElem_toArray, List.getElem_cons_succ, List.getElem_cons_zero, Act.put, List.setIfInBounds_toArray, List.set_cons_zero, List.set_cons_succ]
  refine wpAnyH_take (i := 13) (v := .int .i64 t.k.length) rfl (by kernel_rfl) (by kernel_rfl) (by kernel_rfl) (fun _ _ _ h => h) (Or.inl ⟨by rfl, fun w' hw' => by go_simp⟩) hH ?_
  try simp only [List.getElem_toArray, List.getElem_cons_succ, List.getElem_cons_zero, Act.put, List.setIfInBounds_toArray, List.set_cons_zero, List.set_cons_succ]
  refine wpAnyH_take (i := 14) (v := v2) rfl (by kernel_rfl) (by kernel_rfl) (by kernel_rfl) (fun _ _ _ h => h) (Or.inl ⟨by rfl, fun w' hw' => by rw [Hv2.out]; by_cases hce : c = t.k.length; (rw [if_pos hce]; go_simp); (rw [if_neg hce]; go_simp)⟩) hH ?_
  try simp only [List.getElem_toArray, List.getElem_cons_succ, List.getElem_cons_zero, Act.put, List.setIfInBounds_toArray, List.set_cons_zero, List.set_cons_succ]
  refine wpAnyH_ready (rs := [3]) (by kernel_rfl) (by simp) ?_
  refine AllReadyH.cons rfl (fun K hK => ?_) AllReadyH.nil
  go_simp
  refine hK.out _ _ (hT5) (fun hH => ?_)
  clear hK K
  try simp only [List.getElem_toArray, List.getElem_cons_succ, List.getElem_cons_zero, Act.put, List.setIfInBounds_toArray, List.set_cons_zero, List.set_cons_succ]
  refine wpAnyH_ready (rs := [9]) (by kernel_rfl) (by simp) ?_
  refine AllReadyH.cons rfl (fun K hK => ?_) AllReadyH.nil
  go_simp
  refine (puts_w w3.heap.size [UInt8.ofNat t.n] (l.take t.k.length) _ _ _ hown5 (by show w3.heap.size ≤ (w3.alloc _).heap.size; simp) (by omega) (by simp) hS5 hv5 (by rw [List.length_take]; omega) (fun c hc => hok c (List.mem_of_mem_take hc)) hG5).mono ?_
  rintro e w5 ⟨he, hB5⟩
  obtain rfl : e = .returned (.string (rkey t l)) := he
  have hT6 : Blk w5 w.heap.size 37 _ := below_blk hT5 hB5 (by omega)
  refine hK.out _ _ (hT6) (fun hH => ?_)
  clear hK K
  try simp only [List.getElem_toArray, List.getElem_cons_succ, List.getElem_cons_zero, Act.put, List.setIfInBounds_toArray, List.set_cons_zero, List.set_cons_succ]
  refine wpAnyH_ready (rs := [15]) (by kernel_rfl) (by simp) ?_
  refine AllReadyH.cons rfl (fun K hK => ?_) AllReadyH.nil
  go_simp
  have hC35 : Chg [] w3 w5 := Chg.of_below ((((Chg.refl [] w3).alloc _).drew.below).trans hB5)
  have hs5 := hC35.size
  refine (puts_w w5.heap.size [] (l.drop t.k.length) _ _ _ (World.ownsRow_nil _ _ _ _) (Nat.le_refl _) (by omega) (by simp) (hS2 _ hC35) (fun k hk => by have := hb2 k hk; omega) (by rw [List.length_drop]; have := Hlen.out; omega) (fun c hc => hok c (List.mem_of_mem_drop hc)) (hG3.chg hC35 (by simp))).mono ?_
  rintro e w6 ⟨he, hB6⟩
  obtain rfl : e = .returned (.string (rval t l)) := he
  have hC6 := Chg.of_below hB6
  refine hK.out _ _ (hT6.ext hC6) (fun hH => ?_)
  clear hK K
  try simp only [List.getElem_toArray, List.getElem_cons_succ, List.getElem_cons_zero, Act.put, List.setIfInBounds_toArray, List.set_cons_zero, List.set_cons_succ]
  refine wpAnyH_take (i := 16) (v := .string (rkey t l)) rfl (by kernel_rfl) (by kernel_rfl) (by kernel_rfl) (fun _ _ _ h => h) (Or.inl ⟨by rfl, fun w' hw' => by go_simp⟩) hH ?_
  try simp only [List.getElem_toArray, List.getElem_cons_succ, List.getElem_cons_zero, Act.put, List.setIfInBounds_toArray, List.set_cons_zero, List.set_cons_succ]
  refine wpAnyH_take (i := 17) (v := .string (rval t l)) rfl (by kernel_rfl) (by kernel_rfl) (by kernel_rfl) (fun _ _ _ h => h) (Or.inl ⟨by rfl, fun w' hw' => by go_simp⟩) hH ?_
  try simp only [List.getElem_toArray, List.getElem_cons_succ, List.getElem_cons_zero, Act.put, List.setIfInBounds_toArray, List.set_cons_zero, List.set_cons_succ]
  refine wpAnyH_done (by kernel_rfl) ?_ _
  go_wp2
  exact bodyPost_ret (results_tmp3 rfl _ _ _) rfl ⟨rfl, (hC3w.trans hC35).trans hC6⟩

end Go.Proofs.YtpcaadipejnllaaGreatDoor

/- The key of some cells; cells compared. -/
set_option linter.unusedVariables false
set_option linter.unusedSimpArgs false
namespace Go.Proofs.YtpcaadipejnllaaGreatDoor
open Go.RowKit

theorem own_byte (w : World) (n : Nat) (hn : n ≤ 255) : (w.alloc (.cells #[.int .u8 (n : Int)] 5)).ownsRow w.heap.size 5 1 (.slice (some ⟨w.heap.size, 0, none⟩) 1 1) [UInt8.ofNat n].length (bys [UInt8.ofNat n]) := by
  have hby : bys [UInt8.ofNat n] = [.int .u8 (n : Int)] := by simp [bys]; omega
  rw [hby]
  exact ⟨rfl, .inr ⟨w.heap.size, 1, _, rfl, Nat.le_refl _, Blk.new w 5 #[.int .u8 (n : Int)], Nat.le_refl _, by decide, rfl, rfl⟩⟩
def ckey (t : Tb) (l : List Cl) : ByteArray := ⟨(UInt8.ofNat t.n :: encs l).toArray⟩

set_option maxRecDepth 100000 in
set_option maxHeartbeats 1000000 in
theorem keyc_w (t : Tb) (vk vr v : Value) (l : List Cl) (w : World) (ht : t.Ok) (hkd : l.map Cl.kd = t.k) (hok : ∀ c ∈ l, c.Ok) (h1 : KS w vk t.k) (h2 : KS w vr t.r) (hS : Sl w 5 v l.length (cls l)) (hv : ∀ k, v.ownBlock = some k → k < w.heap.size) (hG : Gv w) (hk24 : (ckey t l).size ≤ 24) :
    Calls Tryz.prog 92 #[.agg (tbV t vk vr), v] w fun e w' => e = .returned (.tuple #[.string (ckey t l), .int .i64 0]) ∧ Chg [] w w' := by
  have htt := ht
  obtain ⟨n1, n2, k0, k8, r8, kk, rk⟩ := ht
  obtain ⟨A1, c1, rfl, hc1, hm1⟩ := h1.form
  obtain ⟨A2, c2, rfl, hc2, hm2⟩ := h2.form
  obtain ⟨A, c, rfl, hc, hm⟩ := hS.form
  have hll : l.length = t.k.length := by have := congrArg List.length hkd; simpa using this
  have hl20 : l.length ≤ 20 := by omega
  have hB : Blk (w.alloc (.cells (tbV t (.slice A1 t.k.length c1) (.slice A2 t.r.length c2)) 37)) w.heap.size 37 (tbV t (.slice A1 t.k.length c1) (.slice A2 t.r.length c2)) := Blk.new _ _ _
  have hC0 : Chg [] w (w.alloc (.cells (tbV t (.slice A1 t.k.length c1) (.slice A2 t.r.length c2)) 37)) := (Chg.refl _ _).alloc _
  have hdk : decide ((24 : Int) < ((ckey t l).size : Int)) = false := decide_eq_false (by omega)
  have hwn : IntKind.u8.wrap (t.n : Int) = (t.n : Int) := by rw [IntKind.wrap_u8]; omega
  have hby : bys [UInt8.ofNat t.n] = [.int .u8 (t.n : Int)] := by simp [bys]; omega
  have hKm : ∀ w' v', KS w' v' t.k → KS w' v' (l.map Cl.kd) := fun w' v' h => by rw [hkd]; exact h
  have Hkm := Lib.hid hKm
  clear hll hkd hKm
  go_enter Tryz.func92, Tryz.ntmps92
  go_wp2_with (first
    | (refine wpList_load_row rfl 37 (.tmp 2) rfl w.heap.size rfl 37 _ (0, 0) _ hB Tryz.underlying37 rfl (by kernel_rfl) ?_)
    | (go_at_call 28; go_loud (refine (valid_t t _ _ _ htt (h1.ext hC0) (h2.ext hC0)).mono ?_; rintro e w1 ⟨rfl, hC1⟩; have hCC1 := hC0.trans hC1; have b1 : _ = some (Value.slice A1 t.k.length c1) := (hB.ext hC1).cell 1))
    | (go_at_call 29; go_loud (refine (are_w l _ _ _ (hS.ext hCC1) (Hkm.out _ _ (h1.ext hCC1)) (by omega)).mono ?_; rintro e w3 ⟨rfl, hC3⟩; have hCC3 := hCC1.trans hC3; have b0 : _ = some (Value.int .i64 t.n) := ((hB.ext hC1).ext hC3).cell 0; have hs3 := hCC3.size))
    | (go_at_call 31; go_loud (refine (puts_w w3.heap.size [UInt8.ofNat t.n] l _ _ _ (own_byte w3 t.n n2) (by simp) (by have := hB.lt; have := hC1.size; have := hC3.size; omega) (by simp) ((hS.ext hCC3).ext ((Chg.refl [] w3).alloc _)) (fun k hk => by have := hv k hk; omega) hl20 hok ((hG.chg hCC3 (by simp)).chg ((Chg.refl [] w3).alloc _) (by simp))).mono ?_; rintro e w4 ⟨he, hB4⟩; obtain rfl : e = .returned (.string (ckey t l)) := he)))
  go_ret2
  exact ⟨rfl, hCC3.trans (Chg.of_below (((((Chg.refl [] w3).alloc _)).below).trans hB4))⟩

set_option maxRecDepth 100000 in
set_option maxHeartbeats 1000000 in
theorem nan_w (a : Int) (w : World) : Calls Tryz.prog 95 #[.int .i64 a] w fun e w' => e = .returned (.bool false) ∧ w = w' := by
  go_enter Tryz.func95, Tryz.ntmps95
  go_wp2
  go_ret
  exact ⟨rfl, rfl⟩

set_option maxRecDepth 100000 in
set_option maxHeartbeats 1000000 in
theorem cmpi_w (a b : Int) (w : World) (h : a ≤ b) : Calls Tryz.prog 53 #[.int .i64 a, .int .i64 b] w fun e w' => ∃ r : Int, e = .returned (.int .i64 r) ∧ r ≤ 0 ∧ w = w' := by
  have hd : decide (b < a) = false := decide_eq_false (by omega)
  by_cases hlt : a < b
  · have hd2 : decide (a < b) = true := decide_eq_true hlt
    go_enter Tryz.func53, Tryz.ntmps53
    go_wp2_with (go_at_call 95; refine (nan_w _ _).mono ?_; rintro e w1 ⟨rfl, rfl⟩)
    go_ret
    exact ⟨_, rfl, by omega, rfl⟩
  · have hd2 : decide (a < b) = false := decide_eq_false hlt
    go_enter Tryz.func53, Tryz.ntmps53
    go_wp2_with (go_at_call 95; refine (nan_w _ _).mono ?_; rintro e w1 ⟨rfl, rfl⟩)
    go_ret
    exact ⟨_, rfl, by omega, rfl⟩

set_option maxRecDepth 100000 in
set_option maxHeartbeats 1000000 in
theorem compare_i (a b : Int) (w : World) (h : a ≤ b) :
    Calls Tryz.prog 19 #[.agg (Cl.i a).cs, .agg (Cl.i b).cs] w fun e w' => ∃ r : Int, e = .returned (.int .i64 r) ∧ r ≤ 0 ∧ Chg [] w w' := by
  have hB1 : Blk ((w.alloc (.cells (Cl.i a).cs 62)).alloc (.cells (Cl.i b).cs 62)) w.heap.size 62 (Cl.i a).cs := (Blk.new _ _ _).alloc _
  have hB2 : Blk ((w.alloc (.cells (Cl.i a).cs 62)).alloc (.cells (Cl.i b).cs 62)) (w.heap.size + 1) 62 (Cl.i b).cs := Blk.newEq (by simp)
  have x0 : _ = some (Value.int .i64 2) := hB1.cell 0
  have x2 : _ = some (Value.int .i64 a) := hB1.cell 2
  have y0 : _ = some (Value.int .i64 2) := hB2.cell 0
  have y2 : _ = some (Value.int .i64 b) := hB2.cell 2
  go_enter Tryz.func19, Tryz.ntmps19
  go_wp2_with (go_at_call 53; refine (cmpi_w a b _ h).mono ?_; rintro e w1 ⟨r, rfl, hr, rfl⟩)
  go_ret
  exact ⟨r, rfl, hr, ((Chg.refl _ _).alloc _).alloc _⟩

end Go.Proofs.YtpcaadipejnllaaGreatDoor

/- Two rows that are equal. -/
set_option linter.unusedVariables false
set_option linter.unusedSimpArgs false
namespace Go.Proofs.YtpcaadipejnllaaGreatDoor
open Go.RowKit

theorem yieldsIf_load_cm {ops : Array Oper} {S : World → Prop} {op : Oper} {a : Act} (hw : Region.wanted op (yielded ops a.tmps) = true) (x : Operand) (ho : op.op = .load 62 x)
    (b o : Nat) (hx : a.eval x = .pointer (some ⟨b, o, none⟩)) (c : Cl) (hS : ∀ w, S w → ∀ j, j < 5 → w.cell? ⟨b, o + j, none⟩ = c.cs.toList[j]?) : YieldsIf Tryz.prog ops S op (.agg c.cs) a := by
  have h := yieldsIf_load_mid (P := Tryz.prog) (ops := ops) (S := S) hw 62 x ho b o hx c.cs.toList _ (fun w h j v hv => by
    have hj : j < 5 := by have := (List.getElem?_eq_some_iff.1 hv).1; rw [cs_len] at this; exact this
    rw [hS w h j hj]; exact hv) Tryz.underlying62 rfl (by rw [cs_len]; kernel_rfl)
  rw [Array.toArray_toList] at h
  exact h

theorem neq62 (xs ys : Array Value) (w : World) : (binOp .neq 62 (.agg xs) (.agg ys)).run Tryz.prog w = ((Op.eqFields 9999 xs ys (Tryz.prog.fieldsOf 62).toList).run Tryz.prog w).andThen fun b w' => .ok (.bool (!b)) w' := by
  have hS : Tryz.prog.underlying 62 = some (.struct (Tryz.prog.fieldsOf 62)) := by kernel_rfl
  have hp : Tryz.prog.stoodInHeld 62 = false := by kernel_rfl
  rw [run_neq_struct, show (10000 : Nat) = 9999 + 1 from rfl, run_equalIn_agg w 9999 62 _ _ hS hp]
theorem neq62c (c : Cl) (w : World) : (binOp .neq 62 (.agg c.cs) (.agg c.cs)).run Tryz.prog w = .ok (.bool false) w := by
  have a59 := Tryz.isAgg59
  rw [neq62]
  simp only [Program.fieldsOf, Tryz.underlying62]
  cases c <;> simp only [Cl.cs] <;> go_simp
theorem yieldsIf_neq62 {ops : Array Oper} {S : World → Prop} {op : Oper} {a : Act} (hw : Region.wanted op (yielded ops a.tmps) = true) (x y : Operand) (ty : TypeId) (ho : op.op = .binOp .neq 62 x y ty) (c : Cl) (hx : a.eval x = .agg c.cs) (hy : a.eval y = .agg c.cs) : YieldsIf Tryz.prog ops S op (.bool false) a :=
  .inl ⟨hw, fun w _ => by
    have hg := run_eqGuard_agg (P := Tryz.prog) (w := w) .neq 62 x y c.cs c.cs Tryz.eqGuardType62
    unfold execOp
    simp only [ho, hx, hy, Sem.run_bind, Sem.run_pure, Result.andThen_ok, hg, neq62c]⟩

set_option maxRecDepth 100000 in
set_option maxHeartbeats 1000000 in
theorem sleq_w (l : List Cl) (v u : Value) (w : World) (hS : Sl w 5 v l.length (cls l)) (hU : Sl w 5 u l.length (cls l)) (hl : l.length ≤ 100) :
    Calls Tryz.prog 93 #[v, u] w fun e w' => e = .returned (.bool true) ∧ Chg [] w w' := by
  obtain ⟨A, c1, rfl, hc1, hm1⟩ := hS.form
  obtain ⟨B, c2, rfl, hc2, hm2⟩ := hU.form
  go_enter Tryz.func93, Tryz.ntmps93
  go_wp2
  go_loopw [13] (fun i wr => ∃ k : Nat, k ≤ l.length ∧ i = .int .i64 k ∧ Chg [] w wr) (fun i _ => l.length - (intOf i).toNat)
  case atStart => exact ⟨0, by omega, rfl, Chg.refl _ _⟩
  case round =>
    obtain ⟨k, hk, rfl, hC⟩ := hrel
    by_cases hlt : k < l.length
    · obtain ⟨s1, o1, rfl, hs1, hx1⟩ := (hS.ext hC).at_ (by omega)
      obtain ⟨s2, o2, rfl, hs2, hx2⟩ := (hU.ext hC).at_ (by omega)
      obtain ⟨d, hd⟩ : ∃ d, l[k]? = some d := ⟨_, List.getElem?_eq_getElem hlt⟩
      have hl1 : ∀ j, j < 5 → wr.cell? ⟨s1, o1 + k * 5 + j, none⟩ = d.cs.toList[j]? := fun j hj => by rw [Nat.add_assoc, hx1 _ (by omega)]; exact cls_get l k d hd j hj
      have hl2 : ∀ j, j < 5 → wr.cell? ⟨s2, o2 + k * 5 + j, none⟩ = d.cs.toList[j]? := fun j hj => by rw [Nat.add_assoc, hx2 _ (by omega)]; exact cls_get l k d hd j hj
      have Hl1 := Lib.hid hl1
      have Hl2 := Lib.hid hl2
      clear hl1 hl2 hx1 hx2 hd
      go_upto_region 6 with (fail)
      refine wp_region_held_drew (S := fun W => (∀ j, j < 5 → W.cell? ⟨s1, o1 + k * 5 + j, none⟩ = d.cs.toList[j]?) ∧ (∀ j, j < 5 → W.cell? ⟨s2, o2 + k * 5 + j, none⟩ = d.cs.toList[j]?)) (by kernel_rfl) (⟨Hl1.out, Hl2.out⟩) (fun hH => ?_)
      refine wpAnyH_take (i := 0) (v := .slice (some ⟨s1, o1, none⟩) l.length c1) rfl (by kernel_rfl) (by kernel_rfl) (by kernel_rfl) (fun _ _ _ h => h) (Or.inl ⟨by rfl, fun w' hw' => by go_simp⟩) hH ?_
      try simp only [List.getElem_toArray, List.getElem_cons_succ, List.getElem_cons_zero, Act.put, List.setIfInBounds_toArray, List.set_cons_zero, List.set_cons_succ]
      refine wpAnyH_take (i := 1) (v := .int .i64 k) rfl (by kernel_rfl) (by kernel_rfl) (by kernel_rfl) (fun _ _ _ h => h) (Or.inl ⟨by rfl, fun w' hw' => by go_simp⟩) hH ?_
      try simp only [List.getElem_toArray, List.getElem_cons_succ, List.getElem_cons_zero, Act.put, List.setIfInBounds_toArray, List.set_cons_zero, List.set_cons_succ]
      refine wpAnyH_take (i := 2) (v := .pointer (some ⟨s1, o1 + k * 5, none⟩)) rfl (by kernel_rfl) (by kernel_rfl) (by kernel_rfl) (fun _ _ _ h => h) (Or.inl ⟨by rfl, fun w' hw' => by go_simp⟩) hH ?_
      try simp only [List.getElem_toArray, List.getElem_cons_succ, List.getElem_cons_zero, Act.put, List.setIfInBounds_toArray, List.set_cons_zero, List.set_cons_succ]
      refine wpAnyH_take (i := 3) (v := .agg d.cs) rfl (by kernel_rfl) (by kernel_rfl) (by kernel_rfl) (fun _ _ _ h => h) (yieldsIf_load_cm (by rfl) _ rfl s1 (o1 + k * 5) rfl d (fun w h => h.1)) hH ?_
      try simp only [List.getElem_toArray, List.getElem_cons_succ, List.getElem_cons_zero, Act.put, List.setIfInBounds_toArray, List.set_cons_zero, List.set_cons_succ]
      refine wpAnyH_take (i := 4) (v := .slice (some ⟨s2, o2, none⟩) l.length c2) rfl (by kernel_rfl) (by kernel_rfl) (by kernel_rfl) (fun _ _ _ h => h) (Or.inl ⟨by rfl, fun w' hw' => by go_simp⟩) hH ?_
      try simp only [List.getElem_toArray, List.getElem_cons_succ, List.getElem_cons_zero, Act.put, List.setIfInBounds_toArray, List.set_cons_zero, List.set_cons_succ]
      refine wpAnyH_take (i := 5) (v := .int .i64 k) rfl (by kernel_rfl) (by kernel_rfl) (by kernel_rfl) (fun _ _ _ h => h) (Or.inl ⟨by rfl, fun w' hw' => by go_simp⟩) hH ?_
      try simp only [List.getElem_toArray, List.getElem_cons_succ, List.getElem_cons_zero, Act.put, List.setIfInBounds_toArray, List.set_cons_zero, List.set_cons_succ]
      refine wpAnyH_take (i := 6) (v := .pointer (some ⟨s2, o2 + k * 5, none⟩)) rfl (by kernel_rfl) (by kernel_rfl) (by kernel_rfl) (fun _ _ _ h => h) (Or.inl ⟨by rfl, fun w' hw' => by go_simp⟩) hH ?_
      try simp only [List.getElem_toArray, List.getElem_cons_succ, List.getElem_cons_zero, Act.put, List.setIfInBounds_toArray, List.set_cons_zero, List.set_cons_succ]
      refine wpAnyH_take (i := 7) (v := .agg d.cs) rfl (by kernel_rfl) (by kernel_rfl) (by kernel_rfl) (fun _ _ _ h => h) (yieldsIf_load_cm (by rfl) _ rfl s2 (o2 + k * 5) rfl d (fun w h => h.2)) hH ?_
      try simp only [List.getElem_toArray, List.getElem_cons_succ, List.getElem_cons_zero, Act.put, List.setIfInBounds_toArray, List.set_cons_zero, List.set_cons_succ]
      refine wpAnyH_take (i := 8) (v := .bool false) rfl (by kernel_rfl) (by kernel_rfl) (by kernel_rfl) (fun _ _ _ h => h) (yieldsIf_neq62 (by rfl) _ _ _ rfl d rfl rfl) hH ?_
      try simp only [List.getElem_toArray, List.getElem_cons_succ, List.getElem_cons_zero, Act.put, List.setIfInBounds_toArray, List.set_cons_zero, List.set_cons_succ]
      refine wpAnyH_done (by kernel_rfl) ?_ _
      go_wp2
      go_roundw
      case rel => exact ⟨k + 1, by omega, by go_num, hC.drew⟩
      case measure => simp [intOf]; omega
    · go_wp2
      go_ret
      exact ⟨rfl, hC⟩

set_option maxRecDepth 100000 in
set_option maxHeartbeats 1000000 in
theorem equal_w (l : List Cl) (v u : Value) (w : World) (hS : Sl w 5 v l.length (cls l)) (hU : Sl w 5 u l.length (cls l)) (hl : l.length ≤ 100) :
    Calls Tryz.prog 50 #[v, u] w fun e w' => e = .returned (.bool true) ∧ Chg [] w w' := by
  go_enter Tryz.func50, Tryz.ntmps50
  go_wp2_with (go_at_call 93; refine (sleq_w l v u _ hS hU hl).mono ?_; rintro e w1 ⟨rfl, hC⟩)
  go_ret
  exact ⟨rfl, hC⟩

end Go.Proofs.YtpcaadipejnllaaGreatDoor

/- A number is read. -/
set_option linter.unusedVariables false
set_option linter.unusedSimpArgs false
namespace Go.Proofs.YtpcaadipejnllaaGreatDoor
open Go.RowKit

theorem ext_pre (D r : List UInt8) : (⟨(D ++ r).toArray⟩ : ByteArray).extract 0 D.length = ⟨D.toArray⟩ := by
  apply ByteArray.ext
  simp
theorem ext_post (D r : List UInt8) : (⟨(D ++ r).toArray⟩ : ByteArray).extract D.length (D ++ r).length = ⟨r.toArray⟩ := by
  apply ByteArray.ext
  simp

theorem conv_bytes (D : List UInt8) (w : World) : ∃ G W1, (convert 9 86 (.string ⟨D.toArray⟩)).run Tryz.prog w = .ok (.slice (some ⟨w.heap.size, 0, none⟩) D.length G) W1 ∧ Chg [] w W1 ∧ (∀ j (hj : j < D.length), W1.cell? ⟨w.heap.size, j, none⟩ = some (.int .u8 (D[j].toNat : Int))) ∧ D.length ≤ G ∧ W1.heap.size = w.heap.size + 1 := by
  have h := run_bytes_of_string (P := Tryz.prog) w 9 86 5 ⟨D.toArray⟩ Tryz.underlying9 Tryz.underlying86 Tryz.underlying5
  have hz : (⟨D.toArray⟩ : ByteArray).size = D.length := by show D.toArray.size = _; simp
  rw [hz] at h
  refine ⟨_, _, h, ((Chg.refl [] w).drew).trans ((Chg.refl [] _).alloc _), fun j hj => ?_, grownCap_ge w _ _ _, by simp⟩
  have hb := bytesRow_at ⟨D.toArray⟩ (grownCap w D.length 0 5) j (by show j < D.toArray.size; simpa using hj)
  rw [cell_of_row (w.drew.alloc _) w.heap.size j _ 5 _ (by show (w.heap.push _)[w.heap.size]? = _; rw [Array.getElem?_push, if_pos rfl])]
  rw [hb]
  simp

set_option maxRecDepth 100000 in
set_option maxHeartbeats 1000000 in
theorem number0 (r : List UInt8) (w : World) :
    Calls Tryz.prog 126 #[.string ⟨(([] : List UInt8) ++ r).toArray⟩, .int .i64 0, .bool false] w fun e w' => e = .returned (.tuple #[.int .u64 (0 : Nat), .string ⟨r.toArray⟩, .bool true]) ∧ Chg [] w w' := by
  have hsz : (⟨(([] : List UInt8) ++ r).toArray⟩ : ByteArray).size = r.length + 0 := by show (([] : List UInt8) ++ r).toArray.size = _; simp
  have he1 : (⟨(([] : List UInt8) ++ r).toArray⟩ : ByteArray).extract 0 0 = ⟨(([] : List UInt8)).toArray⟩ := ext_pre ([] : List UInt8) r
  have he2 : (⟨(([] : List UInt8) ++ r).toArray⟩ : ByteArray).extract 0 (r.length + 0) = ⟨r.toArray⟩ := by have := ext_post ([] : List UInt8) r; rw [show (([] : List UInt8) ++ r).length = r.length + 0 by simp] at this; exact this
  obtain ⟨S, hS⟩ : ∃ S : ByteArray, S = ⟨(([] : List UInt8) ++ r).toArray⟩ := ⟨_, rfl⟩
  rw [← hS] at hsz he1 he2 ⊢
  clear hS
  have hd1 : decide ((S.size : Int) < 0) = false := decide_eq_false (by omega)
  have hd2 : decide ((r.length : Int) + 0 < 0) = false := decide_eq_false (by omega)
  obtain ⟨G, W1, hcv, hC, hcell, hG, hs1⟩ := conv_bytes ([] : List UInt8) w
  have he3 : S.extract 0 r.length = ⟨r.toArray⟩ := he2
  have hcv2 : (convert 9 86 (.string ByteArray.empty)).run Tryz.prog w = .ok (.slice (some ⟨w.heap.size, 0, none⟩) 0 G) W1 := hcv
  clear hcell
  go_enter Tryz.func126, Tryz.ntmps126
  go_wp2
  refine wp_loop_rounds 1 ?_
  rw [rounds_succ]
  go_upto_region 11 with (fail)
  go_quiet (fail)
  go_wp2
  exact bodyPost_ret (results_tmp3 rfl _ _ _) rfl ⟨rfl, hC.drewN _⟩

set_option maxRecDepth 100000 in
set_option maxHeartbeats 1000000 in
theorem number0i (r : List UInt8) (w : World) :
    Calls Tryz.prog 126 #[.string ⟨(([] : List UInt8) ++ r).toArray⟩, .int .i64 0, .bool true] w fun e w' => e = .returned (.tuple #[.int .u64 (0 : Nat), .string ⟨r.toArray⟩, .bool true]) ∧ Chg [] w w' := by
  have hsz : (⟨(([] : List UInt8) ++ r).toArray⟩ : ByteArray).size = r.length + 0 := by show (([] : List UInt8) ++ r).toArray.size = _; simp
  have he1 : (⟨(([] : List UInt8) ++ r).toArray⟩ : ByteArray).extract 0 0 = ⟨(([] : List UInt8)).toArray⟩ := ext_pre ([] : List UInt8) r
  have he2 : (⟨(([] : List UInt8) ++ r).toArray⟩ : ByteArray).extract 0 (r.length + 0) = ⟨r.toArray⟩ := by have := ext_post ([] : List UInt8) r; rw [show (([] : List UInt8) ++ r).length = r.length + 0 by simp] at this; exact this
  obtain ⟨S, hS⟩ : ∃ S : ByteArray, S = ⟨(([] : List UInt8) ++ r).toArray⟩ := ⟨_, rfl⟩
  rw [← hS] at hsz he1 he2 ⊢
  clear hS
  have hd1 : decide ((S.size : Int) < 0) = false := decide_eq_false (by omega)
  have hd2 : decide ((r.length : Int) + 0 < 0) = false := decide_eq_false (by omega)
  obtain ⟨G, W1, hcv, hC, hcell, hG, hs1⟩ := conv_bytes ([] : List UInt8) w
  have he3 : S.extract 0 r.length = ⟨r.toArray⟩ := he2
  have hcv2 : (convert 9 86 (.string ByteArray.empty)).run Tryz.prog w = .ok (.slice (some ⟨w.heap.size, 0, none⟩) 0 G) W1 := hcv
  clear hcell
  go_enter Tryz.func126, Tryz.ntmps126
  go_wp2
  refine wp_loop_rounds 1 ?_
  rw [rounds_succ]
  go_upto_region 11 with (fail)
  go_quiet (fail)
  go_wp2
  exact bodyPost_ret (results_tmp3 rfl _ _ _) rfl ⟨rfl, hC.drewN _⟩

set_option maxRecDepth 100000 in
set_option maxHeartbeats 1000000 in
theorem number1 (a : UInt8) (r : List UInt8) (w : World) :
    Calls Tryz.prog 126 #[.string ⟨([a] ++ r).toArray⟩, .int .i64 1, .bool false] w fun e w' => e = .returned (.tuple #[.int .u64 (a.toNat : Nat), .string ⟨r.toArray⟩, .bool true]) ∧ Chg [] w w' := by
  have hsz : (⟨([a] ++ r).toArray⟩ : ByteArray).size = r.length + 1 := by show ([a] ++ r).toArray.size = _; simp
  have he1 : (⟨([a] ++ r).toArray⟩ : ByteArray).extract 0 1 = ⟨([a]).toArray⟩ := ext_pre [a] r
  have he2 : (⟨([a] ++ r).toArray⟩ : ByteArray).extract 1 (r.length + 1) = ⟨r.toArray⟩ := by have := ext_post [a] r; rw [show ([a] ++ r).length = r.length + 1 by simp] at this; exact this
  obtain ⟨S, hS⟩ : ∃ S : ByteArray, S = ⟨([a] ++ r).toArray⟩ := ⟨_, rfl⟩
  rw [← hS] at hsz he1 he2 ⊢
  clear hS
  have hd1 : decide ((S.size : Int) < 1) = false := decide_eq_false (by omega)
  have hd2 : decide ((r.length : Int) + 1 < 1) = false := decide_eq_false (by omega)
  have ha := UInt8.toNat_lt a
  have wa : IntKind.u64.wrap ((a.toNat : Nat) : Int) = ((a.toNat : Nat) : Int) := by rw [IntKind.wrap_u64]; omega
  have o1 : bits .or .u64 0 ((a.toNat : Nat) : Int) = ((a.toNat : Nat) : Int) := by have := or_byte 0 a.toNat (by omega) (by omega); simpa using this
  obtain ⟨G, W1, hcv, hC, hcell, hG, hs1⟩ := conv_bytes [a] w
  have x0 := hcell 0 (by simp)
  clear hcell
  go_enter Tryz.func126, Tryz.ntmps126
  go_wp2
  refine wp_loop_rounds 2 ?_
  rw [rounds_succ]
  go_wp2
  rw [rounds_succ]
  go_upto_region 11 with (fail)
  go_quiet (fail)
  go_wp2
  exact bodyPost_ret (results_tmp3 rfl _ _ _) rfl ⟨rfl, hC.drewN _⟩

set_option maxRecDepth 100000 in
set_option maxHeartbeats 1000000 in
theorem number1i (a : UInt8) (r : List UInt8) (w : World) :
    Calls Tryz.prog 126 #[.string ⟨([a] ++ r).toArray⟩, .int .i64 1, .bool true] w fun e w' => e = .returned (.tuple #[.int .u64 ((255 - a.toNat) : Nat), .string ⟨r.toArray⟩, .bool true]) ∧ Chg [] w w' := by
  have hsz : (⟨([a] ++ r).toArray⟩ : ByteArray).size = r.length + 1 := by show ([a] ++ r).toArray.size = _; simp
  have he1 : (⟨([a] ++ r).toArray⟩ : ByteArray).extract 0 1 = ⟨([a]).toArray⟩ := ext_pre [a] r
  have he2 : (⟨([a] ++ r).toArray⟩ : ByteArray).extract 1 (r.length + 1) = ⟨r.toArray⟩ := by have := ext_post [a] r; rw [show ([a] ++ r).length = r.length + 1 by simp] at this; exact this
  obtain ⟨S, hS⟩ : ∃ S : ByteArray, S = ⟨([a] ++ r).toArray⟩ := ⟨_, rfl⟩
  rw [← hS] at hsz he1 he2 ⊢
  clear hS
  have hd1 : decide ((S.size : Int) < 1) = false := decide_eq_false (by omega)
  have hd2 : decide ((r.length : Int) + 1 < 1) = false := decide_eq_false (by omega)
  have ha := UInt8.toNat_lt a
  have va : IntKind.u8.wrap (255 - (a.toNat : Int)) = ((255 - a.toNat : Nat) : Int) := by rw [IntKind.wrap_u8]; omega
  have wa : IntKind.u64.wrap (((255 - a.toNat) : Nat) : Int) = (((255 - a.toNat) : Nat) : Int) := by rw [IntKind.wrap_u64]; omega
  have o1 : bits .or .u64 0 (((255 - a.toNat) : Nat) : Int) = (((255 - a.toNat) : Nat) : Int) := by have := or_byte 0 (255 - a.toNat) (by omega) (by omega); simpa using this
  obtain ⟨G, W1, hcv, hC, hcell, hG, hs1⟩ := conv_bytes [a] w
  have x0 := hcell 0 (by simp)
  clear hcell
  go_enter Tryz.func126, Tryz.ntmps126
  go_wp2
  refine wp_loop_rounds 2 ?_
  rw [rounds_succ]
  go_wp2
  rw [rounds_succ]
  go_upto_region 11 with (fail)
  go_quiet (fail)
  go_wp2
  exact bodyPost_ret (results_tmp3 rfl _ _ _) rfl ⟨rfl, hC.drewN _⟩

set_option maxRecDepth 100000 in
set_option maxHeartbeats 1000000 in
theorem number2 (a : UInt8) (b : UInt8) (r : List UInt8) (w : World) :
    Calls Tryz.prog 126 #[.string ⟨([a, b] ++ r).toArray⟩, .int .i64 2, .bool false] w fun e w' => e = .returned (.tuple #[.int .u64 (a.toNat * 256 + b.toNat : Nat), .string ⟨r.toArray⟩, .bool true]) ∧ Chg [] w w' := by
  have hsz : (⟨([a, b] ++ r).toArray⟩ : ByteArray).size = r.length + 2 := by show ([a, b] ++ r).toArray.size = _; simp
  have he1 : (⟨([a, b] ++ r).toArray⟩ : ByteArray).extract 0 2 = ⟨([a, b]).toArray⟩ := ext_pre [a, b] r
  have he2 : (⟨([a, b] ++ r).toArray⟩ : ByteArray).extract 2 (r.length + 2) = ⟨r.toArray⟩ := by have := ext_post [a, b] r; rw [show ([a, b] ++ r).length = r.length + 2 by simp] at this; exact this
  obtain ⟨S, hS⟩ : ∃ S : ByteArray, S = ⟨([a, b] ++ r).toArray⟩ := ⟨_, rfl⟩
  rw [← hS] at hsz he1 he2 ⊢
  clear hS
  have hd1 : decide ((S.size : Int) < 2) = false := decide_eq_false (by omega)
  have hd2 : decide ((r.length : Int) + 2 < 2) = false := decide_eq_false (by omega)
  have ha := UInt8.toNat_lt a
  have wa : IntKind.u64.wrap ((a.toNat : Nat) : Int) = ((a.toNat : Nat) : Int) := by rw [IntKind.wrap_u64]; omega
  have hb := UInt8.toNat_lt b
  have wb : IntKind.u64.wrap ((b.toNat : Nat) : Int) = ((b.toNat : Nat) : Int) := by rw [IntKind.wrap_u64]; omega
  have o1 : bits .or .u64 0 ((a.toNat : Nat) : Int) = ((a.toNat : Nat) : Int) := by have := or_byte 0 a.toNat (by omega) (by omega); simpa using this
  have wm : IntKind.u64.wrap (((a.toNat : Nat) : Int) * 256) = ((a.toNat : Nat) : Int) * 256 := by rw [IntKind.wrap_u64]; omega
  have o2 : bits .or .u64 (((a.toNat : Nat) : Int) * 256) ((b.toNat : Nat) : Int) = ((a.toNat * 256 + b.toNat : Nat) : Int) := or_byte _ _ (by omega) (by omega)
  obtain ⟨G, W1, hcv, hC, hcell, hG, hs1⟩ := conv_bytes [a, b] w
  have x0 := hcell 0 (by simp)
  have x1 := hcell 1 (by simp)
  clear hcell
  go_enter Tryz.func126, Tryz.ntmps126
  go_wp2
  refine wp_loop_rounds 3 ?_
  rw [rounds_succ]
  go_wp2
  rw [rounds_succ]
  go_wp2
  rw [rounds_succ]
  go_upto_region 11 with (fail)
  go_quiet (fail)
  go_wp2
  exact bodyPost_ret (results_tmp3 rfl _ _ _) rfl ⟨rfl, hC.drewN _⟩

set_option maxRecDepth 100000 in
set_option maxHeartbeats 1000000 in
theorem number2i (a : UInt8) (b : UInt8) (r : List UInt8) (w : World) :
    Calls Tryz.prog 126 #[.string ⟨([a, b] ++ r).toArray⟩, .int .i64 2, .bool true] w fun e w' => e = .returned (.tuple #[.int .u64 ((255 - a.toNat) * 256 + (255 - b.toNat) : Nat), .string ⟨r.toArray⟩, .bool true]) ∧ Chg [] w w' := by
  have hsz : (⟨([a, b] ++ r).toArray⟩ : ByteArray).size = r.length + 2 := by show ([a, b] ++ r).toArray.size = _; simp
  have he1 : (⟨([a, b] ++ r).toArray⟩ : ByteArray).extract 0 2 = ⟨([a, b]).toArray⟩ := ext_pre [a, b] r
  have he2 : (⟨([a, b] ++ r).toArray⟩ : ByteArray).extract 2 (r.length + 2) = ⟨r.toArray⟩ := by have := ext_post [a, b] r; rw [show ([a, b] ++ r).length = r.length + 2 by simp] at this; exact this
  obtain ⟨S, hS⟩ : ∃ S : ByteArray, S = ⟨([a, b] ++ r).toArray⟩ := ⟨_, rfl⟩
  rw [← hS] at hsz he1 he2 ⊢
  clear hS
  have hd1 : decide ((S.size : Int) < 2) = false := decide_eq_false (by omega)
  have hd2 : decide ((r.length : Int) + 2 < 2) = false := decide_eq_false (by omega)
  have ha := UInt8.toNat_lt a
  have va : IntKind.u8.wrap (255 - (a.toNat : Int)) = ((255 - a.toNat : Nat) : Int) := by rw [IntKind.wrap_u8]; omega
  have wa : IntKind.u64.wrap (((255 - a.toNat) : Nat) : Int) = (((255 - a.toNat) : Nat) : Int) := by rw [IntKind.wrap_u64]; omega
  have hb := UInt8.toNat_lt b
  have vb : IntKind.u8.wrap (255 - (b.toNat : Int)) = ((255 - b.toNat : Nat) : Int) := by rw [IntKind.wrap_u8]; omega
  have wb : IntKind.u64.wrap (((255 - b.toNat) : Nat) : Int) = (((255 - b.toNat) : Nat) : Int) := by rw [IntKind.wrap_u64]; omega
  have o1 : bits .or .u64 0 (((255 - a.toNat) : Nat) : Int) = (((255 - a.toNat) : Nat) : Int) := by have := or_byte 0 (255 - a.toNat) (by omega) (by omega); simpa using this
  have wm : IntKind.u64.wrap ((((255 - a.toNat) : Nat) : Int) * 256) = (((255 - a.toNat) : Nat) : Int) * 256 := by rw [IntKind.wrap_u64]; omega
  have o2 : bits .or .u64 ((((255 - a.toNat) : Nat) : Int) * 256) (((255 - b.toNat) : Nat) : Int) = (((255 - a.toNat) * 256 + (255 - b.toNat) : Nat) : Int) := or_byte _ _ (by omega) (by omega)
  obtain ⟨G, W1, hcv, hC, hcell, hG, hs1⟩ := conv_bytes [a, b] w
  have x0 := hcell 0 (by simp)
  have x1 := hcell 1 (by simp)
  clear hcell
  go_enter Tryz.func126, Tryz.ntmps126
  go_wp2
  refine wp_loop_rounds 3 ?_
  rw [rounds_succ]
  go_wp2
  rw [rounds_succ]
  go_wp2
  rw [rounds_succ]
  go_upto_region 11 with (fail)
  go_quiet (fail)
  go_wp2
  exact bodyPost_ret (results_tmp3 rfl _ _ _) rfl ⟨rfl, hC.drewN _⟩


end Go.Proofs.YtpcaadipejnllaaGreatDoor

/- A cell is read. -/
set_option linter.unusedVariables false
set_option linter.unusedSimpArgs false
namespace Go.Proofs.YtpcaadipejnllaaGreatDoor
open Go.RowKit

theorem number_d (n : Nat) (hn : n < 65536) (r : List UInt8) (w : World) :
    Calls Tryz.prog 126 #[.string ⟨(digs n ++ r).toArray⟩, .int .i64 (digs n).length, .bool false] w fun e w' => e = .returned (.tuple #[.int .u64 n, .string ⟨r.toArray⟩, .bool true]) ∧ Chg [] w w' := by
  rcases Nat.eq_zero_or_pos n with h0 | h0
  · subst h0
    exact number0 r w
  · rcases Nat.lt_or_ge n 256 with h1 | h1
    · have hd : digs n = [UInt8.ofNat n] := by unfold digs; rw [if_neg (by omega), if_pos h1]
      have hu : (UInt8.ofNat n).toNat = n := by simp; omega
      have := number1 (UInt8.ofNat n) r w
      rw [hu] at this
      rw [hd]
      exact this
    · have hd : digs n = [UInt8.ofNat (n / 256), UInt8.ofNat (n % 256)] := by unfold digs; rw [if_neg (by omega), if_neg (by omega)]
      have hu : (UInt8.ofNat (n / 256)).toNat = n / 256 := by simp; omega
      have hu2 : (UInt8.ofNat (n % 256)).toNat = n % 256 := by simp
      have := number2 (UInt8.ofNat (n / 256)) (UInt8.ofNat (n % 256)) r w
      rw [hu, hu2, show n / 256 * 256 + n % 256 = n by omega] at this
      rw [hd]
      exact this
theorem number_i (n : Nat) (hn : n < 65536) (r : List UInt8) (w : World) :
    Calls Tryz.prog 126 #[.string ⟨(inv8 (digs n) ++ r).toArray⟩, .int .i64 (digs n).length, .bool true] w fun e w' => e = .returned (.tuple #[.int .u64 n, .string ⟨r.toArray⟩, .bool true]) ∧ Chg [] w w' := by
  have key : ∀ m, m < 256 → 255 - (UInt8.ofNat (255 - (UInt8.ofNat m).toNat)).toNat = m := fun m hm => by simp; omega
  rcases Nat.eq_zero_or_pos n with h0 | h0
  · subst h0
    exact number0i r w
  · rcases Nat.lt_or_ge n 256 with h1 | h1
    · have hd : digs n = [UInt8.ofNat n] := by unfold digs; rw [if_neg (by omega), if_pos h1]
      have := number1i (UInt8.ofNat (255 - (UInt8.ofNat n).toNat)) r w
      rw [key n h1] at this
      rw [hd]
      exact this
    · have hd : digs n = [UInt8.ofNat (n / 256), UInt8.ofNat (n % 256)] := by unfold digs; rw [if_neg (by omega), if_neg (by omega)]
      have := number2i (UInt8.ofNat (255 - (UInt8.ofNat (n / 256)).toNat)) (UInt8.ofNat (255 - (UInt8.ofNat (n % 256)).toNat)) r w
      rw [key _ (by omega), key _ (by omega), show n / 256 * 256 + n % 256 = n by omega] at this
      rw [hd]
      exact this

theorem ext_tail (b : UInt8) (M : List UInt8) : (⟨(b :: M).toArray⟩ : ByteArray).extract 1 (M.length + 1) = ⟨M.toArray⟩ := by
  have := ext_post [b] M
  simpa [Nat.add_comm] using this

set_option maxRecDepth 100000 in
set_option maxHeartbeats 1000000 in
theorem take_u (n : Nat) (hn : n < 65536) (r : List UInt8) (w : World) :
    Calls Tryz.prog 90 #[.string ⟨(enc (.u n) ++ r).toArray⟩, .int .i64 1] w fun e w' => e = .returned (.tuple #[.agg (Cl.u n).cs, .string ⟨r.toArray⟩, .bool true]) ∧ Chg [] w w' := by
  have hdl := digs_len n
  obtain ⟨b0, hb0⟩ : ∃ b0, b0 = UInt8.ofNat (digs n).length := ⟨_, rfl⟩
  have hb1 : (b0.toNat : Int) = ((digs n).length : Int) := by rw [hb0]; simp; omega
  obtain ⟨M, hM⟩ : ∃ M, M = digs n ++ r := ⟨_, rfl⟩
  have hnum := number_d n hn r
  rw [← hM] at hnum
  have hen : enc (.u n) ++ r = b0 :: M := by rw [hb0, hM]; simp [enc]
  rw [hen]
  have hsz : (⟨(b0 :: M).toArray⟩ : ByteArray).size = M.length + 1 := by show (b0 :: M).toArray.size = _; simp
  have he1 := ext_tail b0 M
  have hne : (⟨(b0 :: M).toArray⟩ : ByteArray).toList.isEmpty = false := nonemp (by rw [hsz]; omega)
  have hs0 : ∀ h : 0 < (⟨(b0 :: M).toArray⟩ : ByteArray).size, (⟨(b0 :: M).toArray⟩ : ByteArray)[0]'h = b0 := fun _ => rfl
  have hw1 : wrap64 ((digs n).length : Int) = ((digs n).length : Int) := by unfold wrap64; omega
  have hw2 : wrap64 (b0.toNat : Int) = ((digs n).length : Int) := by rw [hb1]; exact hw1
  obtain ⟨S, hS⟩ : ∃ S : ByteArray, S = ⟨(b0 :: M).toArray⟩ := ⟨_, rfl⟩
  rw [← hS] at hsz he1 hne hs0 ⊢
  have HS := Lib.hid hS
  have Hnum := Lib.hid hnum
  have Hen := Lib.hid hen
  clear hS hen hM hb0 hnum
  have hX : Blk ((w.alloc (.cells #[.int .i64 0, .int .u64 0, .int .i64 0, .string ⟨#[]⟩, .bool false] 62)).alloc (.cells #[.int .i64 1, .int .u64 0, .int .i64 0, .string ⟨#[]⟩, .bool false] 62)) (w.heap.size + 1) 62 #[.int .i64 1, .int .u64 0, .int .i64 0, .string ⟨#[]⟩, .bool false] := Blk.newEq (by simp)
  have hR : Blk ((w.alloc (.cells #[.int .i64 0, .int .u64 0, .int .i64 0, .string ⟨#[]⟩, .bool false] 62)).alloc (.cells #[.int .i64 1, .int .u64 0, .int .i64 0, .string ⟨#[]⟩, .bool false] 62)) w.heap.size 62 #[.int .i64 0, .int .u64 0, .int .i64 0, .string ⟨#[]⟩, .bool false] := (Blk.new _ _ _).alloc _
  go_enter Tryz.func90, Tryz.ntmps90
  go_wp2_with (first
    | (go_at_call 126; go_loud (refine (Hnum.out _).mono ?_; rintro e w1 ⟨rfl, hC1⟩; have hX1 := hX.ext hC1; have hR1 := hR.ext hC1))
    | (refine wpList_store_one rfl 60 (.tmp 32) (.tmp 29) rfl (w.heap.size + 1) 1 rfl (.int .u64 n) rfl 62 _ hX1 (by simp) (by kernel_rfl) rfl ?_; intro w2 hC2 hs2 hX2; have hR2 := hR1.chg hC2 (by simp))
    | (refine wpList_load_row rfl 62 (.tmp 7) rfl (w.heap.size + 1) rfl 62 _ (0, 0) _ hX2 Tryz.underlying62 rfl (by kernel_rfl) ?_)
    | (refine wpList_store_blk rfl 62 (.tmp 4) (.tmp 33) rfl w.heap.size rfl (Cl.u n).cs rfl 62 _ hR2 (by kernel_rfl) (by rfl) (cs_one _) ?_; intro w3 hC3 hs3 hR3))
  have hfin : Chg [] w w3 := (((((Chg.refl [] w).alloc _).alloc _).trans hC1).on hC2 (fun i hi => .inr (by simp at hi; omega))).on hC3 (fun i hi => .inr (by simp at hi; omega))
  exact bodyPost_ret (res_row_tmp2 rfl _ hR3 rfl rfl rfl Tryz.underlying62 rfl (by kernel_rfl)) rfl ⟨rfl, hfin⟩

end Go.Proofs.YtpcaadipejnllaaGreatDoor

/- A cell of a signed number is read. -/
set_option linter.unusedVariables false
set_option linter.unusedSimpArgs false
namespace Go.Proofs.YtpcaadipejnllaaGreatDoor
open Go.RowKit

set_option maxRecDepth 100000 in
set_option maxHeartbeats 1000000 in
theorem take_pos (n : Nat) (hn : n < 32768) (r : List UInt8) (w : World) :
    Calls Tryz.prog 90 #[.string ⟨(enc (.i (n : Int)) ++ r).toArray⟩, .int .i64 2] w fun e w' => e = .returned (.tuple #[.agg (Cl.i (n : Int)).cs, .string ⟨r.toArray⟩, .bool true]) ∧ Chg [] w w' := by
  have hdl := digs_len n
  obtain ⟨b0, hb0⟩ : ∃ b0, b0 = UInt8.ofNat (128 + (digs n).length) := ⟨_, rfl⟩
  have hb1 : (b0.toNat : Int) = 128 + ((digs n).length : Int) := by rw [hb0]; simp; omega
  obtain ⟨M, hM⟩ : ∃ M, M = digs n ++ r := ⟨_, rfl⟩
  have hnum := number_d n (by omega) r
  rw [← hM] at hnum
  have hen : enc (.i (n : Int)) ++ r = b0 :: M := by
    rw [hb0, hM]
    simp only [enc]
    rw [if_pos (by omega), Int.toNat_natCast]; simp
  rw [hen]
  have hsz : (⟨(b0 :: M).toArray⟩ : ByteArray).size = M.length + 1 := by show (b0 :: M).toArray.size = _; simp
  have he1 := ext_tail b0 M
  have hne : (⟨(b0 :: M).toArray⟩ : ByteArray).toList.isEmpty = false := nonemp (by rw [hsz]; omega)
  have hs0 : ∀ h : 0 < (⟨(b0 :: M).toArray⟩ : ByteArray).size, (⟨(b0 :: M).toArray⟩ : ByteArray)[0]'h = b0 := fun _ => rfl
  have hw1 : wrap64 (128 + ((digs n).length : Int)) = 128 + ((digs n).length : Int) := by unfold wrap64; omega
  have hw2 : wrap64 (b0.toNat : Int) = 128 + ((digs n).length : Int) := by rw [hb1]; exact hw1
  have hw3 : IntKind.i64.wrap (128 + ((digs n).length : Int) - 128) = ((digs n).length : Int) := by rw [IntKind.wrap_i64]; omega
  have hw4 : wrap64 (n : Int) = (n : Int) := by unfold wrap64; omega
  have hw5 : IntKind.i64.wrap (n : Int) = (n : Int) := by rw [IntKind.wrap_i64]; omega
  have hw6 : IntKind.i64.wrap (-(n : Int)) = -(n : Int) := by rw [IntKind.wrap_i64]; omega
  have hw7 : IntKind.i64.wrap (-(n : Int) - 1) = -(n : Int) - 1 := by rw [IntKind.wrap_i64]; omega
  have hdc : decide ((128 : Int) ≤ 128 + ((digs n).length : Int)) = true := decide_eq_true (by omega)
  obtain ⟨S, hS⟩ : ∃ S : ByteArray, S = ⟨(b0 :: M).toArray⟩ := ⟨_, rfl⟩
  rw [← hS] at hsz he1 hne hs0 ⊢
  have HS := Lib.hid hS
  have Hnum := Lib.hid hnum
  have Hen := Lib.hid hen
  clear hS hen hM hb0 hnum
  have hX : Blk ((w.alloc (.cells #[.int .i64 0, .int .u64 0, .int .i64 0, .string ⟨#[]⟩, .bool false] 62)).alloc (.cells #[.int .i64 2, .int .u64 0, .int .i64 0, .string ⟨#[]⟩, .bool false] 62)) (w.heap.size + 1) 62 #[.int .i64 2, .int .u64 0, .int .i64 0, .string ⟨#[]⟩, .bool false] := Blk.newEq (by simp)
  have hR : Blk ((w.alloc (.cells #[.int .i64 0, .int .u64 0, .int .i64 0, .string ⟨#[]⟩, .bool false] 62)).alloc (.cells #[.int .i64 2, .int .u64 0, .int .i64 0, .string ⟨#[]⟩, .bool false] 62)) w.heap.size 62 #[.int .i64 0, .int .u64 0, .int .i64 0, .string ⟨#[]⟩, .bool false] := (Blk.new _ _ _).alloc _
  go_enter Tryz.func90, Tryz.ntmps90
  go_wp2_with (first
    | (go_at_call 126; go_loud (refine (Hnum.out _).mono ?_; rintro e w1 ⟨rfl, hC1⟩; have hX1 := hX.ext hC1; have hR1 := hR.ext hC1))
    | (refine wpList_store_one rfl 3 (.tmp 51) (.tmp 50) rfl (w.heap.size + 1) 2 rfl (.int .i64 (n : Int)) rfl 62 _ hX1 (by simp) (by kernel_rfl) rfl ?_; intro w2 hC2 hs2 hX2; have hR2 := hR1.chg hC2 (by simp))
    | (refine wpList_load_row rfl 62 (.tmp 7) rfl (w.heap.size + 1) rfl 62 _ (0, 0) _ hX2 Tryz.underlying62 rfl (by kernel_rfl) ?_)
    | (refine wpList_store_blk rfl 62 (.tmp 4) (.tmp 66) rfl w.heap.size rfl (Cl.i (n : Int)).cs rfl 62 _ hR2 (by kernel_rfl) (by rfl) (cs_one _) ?_; intro w3 hC3 hs3 hR3))
  have hfin : Chg [] w w3 := (((((Chg.refl [] w).alloc _).alloc _).trans hC1).on hC2 (fun i hi => .inr (by simp at hi; omega))).on hC3 (fun i hi => .inr (by simp at hi; omega))
  exact bodyPost_ret (res_row_tmp2 rfl _ hR3 rfl rfl rfl Tryz.underlying62 rfl (by kernel_rfl)) rfl ⟨rfl, hfin⟩

set_option maxRecDepth 100000 in
set_option maxHeartbeats 1000000 in
theorem take_neg (n : Nat) (hn : n < 32768) (r : List UInt8) (w : World) :
    Calls Tryz.prog 90 #[.string ⟨(enc (.i (-(n : Int) - 1)) ++ r).toArray⟩, .int .i64 2] w fun e w' => e = .returned (.tuple #[.agg (Cl.i (-(n : Int) - 1)).cs, .string ⟨r.toArray⟩, .bool true]) ∧ Chg [] w w' := by
  have hdl := digs_len n
  obtain ⟨b0, hb0⟩ : ∃ b0, b0 = UInt8.ofNat (127 - (digs n).length) := ⟨_, rfl⟩
  have hb1 : (b0.toNat : Int) = 127 - ((digs n).length : Int) := by rw [hb0]; simp; omega
  obtain ⟨M, hM⟩ : ∃ M, M = inv8 (digs n) ++ r := ⟨_, rfl⟩
  have hnum := number_i n (by omega) r
  rw [← hM] at hnum
  have hen : enc (.i (-(n : Int) - 1)) ++ r = b0 :: M := by
    rw [hb0, hM]
    simp only [enc]
    rw [if_neg (by omega), show (-(-(n : Int) - 1 + 1)).toNat = n by omega]; simp
  rw [hen]
  have hsz : (⟨(b0 :: M).toArray⟩ : ByteArray).size = M.length + 1 := by show (b0 :: M).toArray.size = _; simp
  have he1 := ext_tail b0 M
  have hne : (⟨(b0 :: M).toArray⟩ : ByteArray).toList.isEmpty = false := nonemp (by rw [hsz]; omega)
  have hs0 : ∀ h : 0 < (⟨(b0 :: M).toArray⟩ : ByteArray).size, (⟨(b0 :: M).toArray⟩ : ByteArray)[0]'h = b0 := fun _ => rfl
  have hw1 : wrap64 (127 - ((digs n).length : Int)) = 127 - ((digs n).length : Int) := by unfold wrap64; omega
  have hw2 : wrap64 (b0.toNat : Int) = 127 - ((digs n).length : Int) := by rw [hb1]; exact hw1
  have hw3 : IntKind.i64.wrap (127 - (127 - ((digs n).length : Int))) = ((digs n).length : Int) := by rw [IntKind.wrap_i64]; omega
  have hw4 : wrap64 (n : Int) = (n : Int) := by unfold wrap64; omega
  have hw5 : IntKind.i64.wrap (n : Int) = (n : Int) := by rw [IntKind.wrap_i64]; omega
  have hw6 : IntKind.i64.wrap (-(n : Int)) = -(n : Int) := by rw [IntKind.wrap_i64]; omega
  have hw7 : IntKind.i64.wrap (-(n : Int) - 1) = -(n : Int) - 1 := by rw [IntKind.wrap_i64]; omega
  have hdc : decide ((128 : Int) ≤ 127 - ((digs n).length : Int)) = false := decide_eq_false (by omega)
  obtain ⟨S, hS⟩ : ∃ S : ByteArray, S = ⟨(b0 :: M).toArray⟩ := ⟨_, rfl⟩
  rw [← hS] at hsz he1 hne hs0 ⊢
  have HS := Lib.hid hS
  have Hnum := Lib.hid hnum
  have Hen := Lib.hid hen
  clear hS hen hM hb0 hnum
  have hX : Blk ((w.alloc (.cells #[.int .i64 0, .int .u64 0, .int .i64 0, .string ⟨#[]⟩, .bool false] 62)).alloc (.cells #[.int .i64 2, .int .u64 0, .int .i64 0, .string ⟨#[]⟩, .bool false] 62)) (w.heap.size + 1) 62 #[.int .i64 2, .int .u64 0, .int .i64 0, .string ⟨#[]⟩, .bool false] := Blk.newEq (by simp)
  have hR : Blk ((w.alloc (.cells #[.int .i64 0, .int .u64 0, .int .i64 0, .string ⟨#[]⟩, .bool false] 62)).alloc (.cells #[.int .i64 2, .int .u64 0, .int .i64 0, .string ⟨#[]⟩, .bool false] 62)) w.heap.size 62 #[.int .i64 0, .int .u64 0, .int .i64 0, .string ⟨#[]⟩, .bool false] := (Blk.new _ _ _).alloc _
  go_enter Tryz.func90, Tryz.ntmps90
  go_wp2_with (first
    | (go_at_call 126; go_loud (refine (Hnum.out _).mono ?_; rintro e w1 ⟨rfl, hC1⟩; have hX1 := hX.ext hC1; have hR1 := hR.ext hC1))
    | (refine wpList_store_one rfl 3 (.tmp 65) (.tmp 64) rfl (w.heap.size + 1) 2 rfl (.int .i64 (-(n : Int) - 1)) rfl 62 _ hX1 (by simp) (by kernel_rfl) rfl ?_; intro w2 hC2 hs2 hX2; have hR2 := hR1.chg hC2 (by simp))
    | (refine wpList_load_row rfl 62 (.tmp 7) rfl (w.heap.size + 1) rfl 62 _ (0, 0) _ hX2 Tryz.underlying62 rfl (by kernel_rfl) ?_)
    | (refine wpList_store_blk rfl 62 (.tmp 4) (.tmp 66) rfl w.heap.size rfl (Cl.i (-(n : Int) - 1)).cs rfl 62 _ hR2 (by kernel_rfl) (by rfl) (cs_one _) ?_; intro w3 hC3 hs3 hR3))
  have hfin : Chg [] w w3 := (((((Chg.refl [] w).alloc _).alloc _).trans hC1).on hC2 (fun i hi => .inr (by simp at hi; omega))).on hC3 (fun i hi => .inr (by simp at hi; omega))
  exact bodyPost_ret (res_row_tmp2 rfl _ hR3 rfl rfl rfl Tryz.underlying62 rfl (by kernel_rfl)) rfl ⟨rfl, hfin⟩

end Go.Proofs.YtpcaadipejnllaaGreatDoor
