/- The checker: a root over leaves is met. -/
import Derived.Test.YtpcaadipejnllaaGreatDoorPart24
import Derived.Test.YtpcaadipejnllaaGreatDoorPart14

set_option linter.unusedVariables false
set_option linter.unusedSimpArgs false
namespace Go.Proofs.YtpcaadipejnllaaGreatDoor
open Go.RowKit

theorem hiOf_root (ls : List Lf) (k : Nat) : hiOf (rootG ls) k = hiL ⟨#[]⟩ (ls.drop (k + 1)) := by
  unfold hiOf
  show (match (seps ls)[k + 1]? with | some y => y.1 | none => _) = _
  rw [seps, List.getElem?_map]
  cases h : ls[k + 1]? with
  | none => rw [List.drop_eq_nil_of_le (List.getElem?_eq_none_iff.1 h)]; rfl
  | some y =>
    rw [List.drop_eq_getElem_cons (List.getElem?_eq_some_iff.1 h).1, (List.getElem?_eq_some_iff.1 h).2]
    rfl
theorem ArS.out5 {w : World} {ba bm bw fr rt cb mb N : Nat} {pgs : Nat → List Nat} {base n : Nat} {f : Int → Option Bool} {cs : Array Value} {v : Value} {xs : List Value} (hA : ArS w ba bm bw fr rt pgs) (hB : Blk w cb 172 cs) (hM : MapB w mb N f) (hO : w.ownsRow base 175 131 v n xs) :
    ba ∉ (mb :: cb :: v.ownBlock.toList) ∧ bm ∉ (mb :: cb :: v.ownBlock.toList) ∧ bw ∉ (mb :: cb :: v.ownBlock.toList) := by
  obtain ⟨ws, h1, h2⟩ := hA
  obtain ⟨_, _, h3, h4, _⟩ := h1.m.hd
  have key : ∀ {g : Nat} {t : TypeId} {cs : Array Value}, Blk w g t cs → t ≠ 172 → t ≠ 175 → g ∉ (mb :: cb :: v.ownBlock.toList) := fun {g t cs'} hg e1 e2 hm => by
    rcases List.mem_cons.1 hm with hm | hm
    · exact hM.ne hg hm.symm
    · rcases List.mem_cons.1 hm with hm | hm
      · exact hg.ne_ hB e1 hm
      · exact own_ne hO hg (fun e => e2 e.symm) (by simpa using hm) rfl
  exact ⟨key h1.a (by decide) (by decide), key h3 (by decide) (by decide), key h4 (by decide) (by decide)⟩
theorem Mid.allIn {fr : Nat} {pgs : Nat → List Nat} {ls : List Lf} {ex fl : List Nat} (H : Mid fr pgs ls ex fl) : (pgsOf ls).Nodup := (List.nodup_append.1 (List.nodup_append.1 H.nd).1).2.1
theorem ins_root (ls : List Lf) : PG.Inside (rootG ls) := by
  exact fun x hx => ⟨cmp_empty_le _, .inl rfl⟩
def mtOf (pgs : Nat → List Nat) (x : Lf) : Mt := ⟨x.p, 0, pgs x.p⟩

set_option maxRecDepth 100000 in
set_option maxHeartbeats 2000000 in
theorem meet1_w (cb ba bm bw fr n mb N base : Nat) (pgs : Nat → List Nat) (ls : List Lf) (fl : List Nat) (f : Int → Option Bool) (v : Value) (L : List Mt) (w : World) (hA : ArS w ba bm bw fr n pgs) (hB : Blk w cb 172 #[.pointer (some ⟨ba, 0, none⟩), .map (some mb), v]) (hM : MapB w mb N f)
    (hO : w.ownsRow base 175 131 v L.length (metL L)) (hb : base ≤ w.heap.size) (hbw : w.heap.size ≤ base) (hll : L.length ≤ 10) (hN : N ≤ 500)
    (hMi : Mid fr pgs ls [n] fl) (hPr : IsPage (pgs n) (rootG ls)) (hn2 : 2 ≤ ls.length) (hld : ∀ x ∈ ls, 36 ≤ load x.l) (hfr : f n = some false) (hfs : ∀ x ∈ ls, f x.p = some false) :
    Calls Tryz.prog 130 #[.pointer (some ⟨cb, 0, none⟩), .int .i64 n, .int .i64 1, .string ⟨#[]⟩, .string ⟨#[]⟩, .bool true] w fun e w' => ∃ v' f', e = .returned (.tuple #[]) ∧ Blk w' cb 172 #[.pointer (some ⟨ba, 0, none⟩), .map (some mb), v'] ∧ MapB w' mb (N + 1 + ls.length) f' ∧ (∀ p, p = n ∨ p ∈ pgsOf ls → f' p = some true) ∧
      w'.ownsRow base 175 131 v' (L ++ (Mt.mk n 1 (pgs n) :: ls.map (mtOf pgs))).length (metL (L ++ (Mt.mk n 1 (pgs n) :: ls.map (mtOf pgs)))) ∧ Chg [mb, cb] w w' := by
  have hl : (pgs n).length = 128 := hPr.head.len
  have hvb : ∀ q, v.ownBlock = some q → base ≤ q := fun q hq => (hO.lt q hq).1
  obtain ⟨hex1, hex2, hrt1, hrt2⟩ := hMi.exn
  obtain ⟨x0, r0, hls0, hlow0⟩ := hMi.low0
  obtain ⟨low, hlow⟩ : ∃ low : ByteArray, low = ⟨#[]⟩ := ⟨_, rfl⟩
  obtain ⟨high, hhigh⟩ : ∃ high : ByteArray, high = ⟨#[]⟩ := ⟨_, rfl⟩
  obtain ⟨root, hroot⟩ : ∃ root : Bool, root = true := ⟨_, rfl⟩
  have hfl : ∀ w, ArS w ba bm bw fr n pgs → Blk w cb 172 #[.pointer (some ⟨ba, 0, none⟩), .map (some mb), v] → MapB w mb N f → Calls Tryz.prog 163 #[.pointer (some ⟨cb, 0, none⟩), .int .i64 n, .int .i64 1, .string ⟨#[]⟩, .string ⟨#[]⟩, .bool true] w fun e w' => e = .returned (.tuple #[.agg (nums (pgs n)), .int .i64 0]) ∧ MapB w' mb (N + 1) (putB f n true) ∧ Chg [mb] w w' :=
    fun w hA hB hM => flaw_root cb ba bm bw fr n mb N n 0 pgs ⟨#[]⟩ ⟨#[]⟩ (seps ls) f v w hA hB hM (by omega) hfr hrt1 hrt2 hPr (ins_root ls) (x0.low, numS x0.p) (by rw [hls0]; rfl) hlow0 (by rw [seps, List.length_map]; exact hn2)
  clear hlow hhigh hroot low high root
  have hmc := hM.ne hB
  have hcb := hB.lt
  have hmb := hM.lt
  have hsz : (nums (pgs n)).size = 128 := by rw [nums_size]; exact hl
  have hone : (nums (pgs n)).all (·.oneCell') = true := nums_one _
  have hms := metV_size n 1 (pgs n) 0 hl
  have hmo := metV_one n 1 (pgs n) 0
  obtain ⟨mv, hmv⟩ : ∃ mv, mv = metV n 1 (pgs n) 0 := ⟨_, rfl⟩
  obtain ⟨i0, z0, hi, hz0, hz1, hz2, hz3⟩ := info175'
  have hov : ∀ k, v.ownBlock = some k → k ≠ cb := fun k hk => own_ne hO hB (by decide) hk
  have hom : ∀ k, v.ownBlock = some k → k ≠ mb := fun k hk => own_nm hO hM hk
  have hol : ∀ k, v.ownBlock = some k → k < w.heap.size := fun k hk => (hO.lt k hk).2
  rw [← hmv] at hms hmo
  have Hmv := Lib.hid hmv
  clear hmv
  go_enter Tryz.func130, Tryz.ntmps130
  go_upto_region 2 with (first
    | (go_at_call 163; refine (hfl _ hA hB hM).mono ?_; rintro e w1 ⟨rfl, hM1, hC1⟩; have hB1 := hB.chg hC1 (by simpa using hmc.symm); have hs1 := hC1.size)
    | (refine wpList_store_blk rfl 72 (.tmp 12) (.tmp 29) rfl w1.heap.size rfl (nums (pgs n)) rfl 72 _ (Blk.new w1 72 _) (hsz ▸ (by kernel_rfl)) (by rw [hsz]; rfl) hone ?_; intro w2 hC2 hs2 hP2; have hCC2 : Chg [mb] w w2 := (hC1.alloc _).on hC2 (fun i hi => .inr (by simp at hi; omega)); have hss2 : w2.heap.size = w1.heap.size + 1 := (by rw [hs2]; simp); have Hs2 := Lib.hid hss2; clear hss2 hs2)
    | (refine wpList_load_rowg (by rfl) 72 (.tmp 12) rfl w1.heap.size rfl 72 (nums (pgs n)) (0, 0) _ hP2 Tryz.underlying72 rfl (hsz ▸ (by kernel_rfl)) ?_)
    | (refine wpList_build_met rfl (.tmp 31) (.tmp 32) (.tmp 33) (.tmp 34) rfl n 1 (pgs n) 0 rfl rfl rfl rfl hl ?_; rw [← Hmv.out])
    | (refine wpList_store_blk rfl 175 (.tmp 14) (.tmp 35) rfl w2.heap.size rfl mv rfl 175 _ (Blk.new w2 175 _) (hms ▸ (by kernel_rfl)) (by rw [hms]; rfl) hmo ?_; intro w3 hC3 hs3 hT3; have hss2 := Hs2.out; have hCC3 : Chg [mb] w w3 := (hCC2.alloc _).on hC3 (fun i hi => .inr (by simp at hi; omega))))
  have hss3 : w3.heap.size = w2.heap.size + 1 := by rw [hs3]; simp
  clear hs3
  have hP3 : Blk w3 w1.heap.size 72 (nums (pgs n)) := (hP2.alloc _).chg hC3 (by simp; omega)
  have hB3 : Blk w3 cb 172 #[.pointer (some ⟨ba, 0, none⟩), .map (some mb), v] := hB.chg hCC3 (by simpa using hmc.symm)
  have hM3 : MapB w3 mb (N + 1) (putB f n true) := ((hM1.ext ((Chg.refl _ _).alloc _)).chg hC2 (by simp; omega)) |>.ext ((Chg.refl _ _).alloc _) |>.chg hC3 (by simp; omega)
  have hO3 : w3.ownsRow base 175 131 v L.length (metL L) := own_chg hO hCC3 (fun k hk => by simpa using hom k hk)
  have hu175 := Tryz.underlying175
  have hi175 : (Tryz.prog.info? 175).map (·.size) = some mv.toList.length := by rw [Array.length_toList, hms]; kernel_rfl
  have hS : ∀ W, Chg (cb :: v.ownBlock.toList) w3 W → W.rangeAt w2.heap.size 0 mv.toList := fun W hW =>
    fun j u hv => by rw [Nat.zero_add, (hT3.chg hW (by intro hk; rcases List.mem_cons.1 hk with hk | hk; omega; have := hol _ (by simpa using hk); omega)).cell, ← Array.getElem?_toList]; exact hv
  have c2a : w3.drew.cell? ⟨cb, 2, none⟩ = some v := hB3.cell 2
  have c2b : ((w3.alloc (.cells mv 175)).drew).cell? ⟨cb, 2, none⟩ = some v := (hB3.alloc _).cell 2
  have hO4 := (hO3.alloc (.cells mv 175)).drew
  have hX4 : Blk (w3.drew.alloc (.cells mv 175)) w3.heap.size 175 mv := Blk.newEq rfl
  have hC4 : Chg v.ownBlock.toList w3 (w3.drew.alloc (.cells mv 175)) := ((Chg.refl _ w3).drew).alloc _
  have hfin : ∀ v2 w5 w6, w5.ownsRow base 175 131 v2 (L.length + 1) (metL L ++ mv.toList) → Chg v.ownBlock.toList w3 w5 → Chg [cb] w5 w6 → Blk w6 cb 172 (#[.pointer (some ⟨ba, 0, none⟩), .map (some mb), v].setIfInBounds 2 v2) → ∃ v2, w6.ownsRow base 175 131 v2 (L.length + 1) (metL L ++ mv.toList) ∧ Blk w6 cb 172 #[.pointer (some ⟨ba, 0, none⟩), .map (some mb), v2] ∧ Chg (cb :: v.ownBlock.toList) w3 w6 := fun v2 w5 w6 hO5 hC5 hC6 hB6 =>
    ⟨v2, own_chg hO5 hC6 (fun k hk hm => own_ne hO5 (hB3.chg hC5 (by intro hk; exact hov cb (by simpa using hk) rfl)) (by decide) hk (by simpa using hm)), hB6, (hC5.mono (fun k hk => List.mem_cons_of_mem _ hk)).trans (hC6.mono (by simp))⟩
  have hnl : ∀ u ∈ mv.toList, u.oneCell' = true := fun u hu => Array.all_eq_true_iff_forall_mem.1 hmo u (by simpa using hu)
  have Hss2 := Lib.hid hss2
  have Hss3 := Lib.hid hss3
  clear hss2 hss3
  try simp only [Act.put, List.setIfInBounds_toArray, List.set_cons_zero, List.set_cons_succ]
  go_cut [] (fun wx => ∃ v2, wx.ownsRow base 175 131 v2 (L.length + 1) (metL L ++ mv.toList) ∧ Blk wx cb 172 #[.pointer (some ⟨ba, 0, none⟩), .map (some mb), v2] ∧ Chg (cb :: v.ownBlock.toList) w3 wx)
  case first =>
    refine wp_region_held_drew (S := fun W => W.rangeAt w2.heap.size 0 mv.toList) (by kernel_rfl) (hS _ ((Chg.refl _ w3).drew)) (fun hH => ?_)
    refine wpAnyH_take (i := 0) (v := .pointer (some ⟨cb, 0, none⟩)) rfl (by kernel_rfl) (by kernel_rfl) (by kernel_rfl) (fun _ _ _ h => h) (Or.inl ⟨by rfl, fun w' hw' => by go_simp⟩) hH ?_
    try simp only [List.getElem_toArray, List.getElem_cons_succ, List.getElem_cons_zero, Act.put, List.setIfInBounds_toArray, List.set_cons_zero, List.set_cons_succ]
    refine wpAnyH_take (i := 1) (v := .pointer (some ⟨cb, 0, none⟩)) rfl (by kernel_rfl) (by kernel_rfl) (by kernel_rfl) (fun _ _ _ h => h) (Or.inl ⟨by rfl, fun w' hw' => by go_simp⟩) hH ?_
    try simp only [List.getElem_toArray, List.getElem_cons_succ, List.getElem_cons_zero, Act.put, List.setIfInBounds_toArray, List.set_cons_zero, List.set_cons_succ]
    refine wpAnyH_take (i := 2) (v := .pointer (some ⟨cb, 0, none⟩)) rfl (by kernel_rfl) (by kernel_rfl) (by kernel_rfl) (fun _ _ _ h => h) (Or.inl ⟨by rfl, fun w' hw' => by go_simp⟩) hH ?_
    try simp only [List.getElem_toArray, List.getElem_cons_succ, List.getElem_cons_zero, Act.put, List.setIfInBounds_toArray, List.set_cons_zero, List.set_cons_succ]
    refine wpAnyH_take (i := 3) (v := .pointer (some ⟨cb, 2, none⟩)) rfl (by kernel_rfl) (by kernel_rfl) (by kernel_rfl) (fun _ _ _ h => h) (Or.inl ⟨by rfl, fun w' hw' => by go_simp⟩) hH ?_
    try simp only [List.getElem_toArray, List.getElem_cons_succ, List.getElem_cons_zero, Act.put, List.setIfInBounds_toArray, List.set_cons_zero, List.set_cons_succ]
    refine wpAnyH_take (i := 5) rfl (by kernel_rfl) (by kernel_rfl) (by kernel_rfl) (fun _ _ _ h => h) (yieldsIf_load_mid (by rfl) _ _ rfl _ _ rfl mv.toList _ (fun w' hw' => hw') hu175 rfl hi175) hH ?_
    try simp only [List.getElem_toArray, List.getElem_cons_succ, List.getElem_cons_zero, Act.put, List.setIfInBounds_toArray, List.set_cons_zero, List.set_cons_succ]
    rw [Array.toArray_toList]
    refine wpAnyH_ready (rs := [4, 6]) (by kernel_rfl) (by simp) ?_
    refine AllReadyH.cons rfl (fun K hK => ?_) (AllReadyH.cons rfl (fun K hK => ?_) AllReadyH.nil)
    · go_simp
      refine hK.out _ _ (hS _ ((Chg.refl _ w3).drew)) (fun hH => ?_)
      clear hK K
      try simp only [List.getElem_toArray, List.getElem_cons_succ, List.getElem_cons_zero, Act.put, List.setIfInBounds_toArray, List.set_cons_zero, List.set_cons_succ]
      refine wpAnyH_ready (rs := [6]) (by kernel_rfl) (by simp) ?_
      refine AllReadyH.cons rfl (fun K hK => ?_) AllReadyH.nil
      rw [if_pos (by rfl)]
      refine op_buildSlice_met _ rfl mv rfl hms ?_
      refine hK.out _ _ (hS _ (hC4.mono (fun k hk => List.mem_cons_of_mem _ hk))) (fun hH => ?_)
      clear hK K
      try simp only [List.getElem_toArray, List.getElem_cons_succ, List.getElem_cons_zero, Act.put, List.setIfInBounds_toArray, List.set_cons_zero, List.set_cons_succ]
      refine wpAnyH_ready (rs := [7]) (by kernel_rfl) (by simp) ?_
      refine AllReadyH.cons rfl (fun K hK => ?_) AllReadyH.nil
      rw [if_pos (by rfl)]
      refine wp_append_own _ _ _ 170 rfl base 175 i0 z0 131 1048 Tryz.underlying170 hi hz0 hz2 hz3 hz1 (by decide) v L.length (metL L) rfl hO4 ⟨w3.drew.heap.size, 0, none⟩ 1 1 mv.toList rfl (by rw [Array.length_toList, hms]) (fun j u hu => by have hq := hX4.cell j; rw [add_mk, Nat.zero_add]; exact hq.trans (by rw [← Array.getElem?_toList]; exact hu)) hnl (by unfold maxLen; omega) (by omega) (by have := hCC3.size; simp; omega) ?_
      intro v2 w5 hO5 hg5 _
      have hC5 : Chg v.ownBlock.toList w3 w5 := hC4.grown hg5 (fun k hk => .inl (by simp [hk]))
      have hB5 := hB3.chg hC5 (by intro hk; exact hov cb (by simpa using hk) rfl)
      refine hK.out _ _ (hS _ (hC5.mono (fun k hk => List.mem_cons_of_mem _ hk))) (fun hH => ?_)
      clear hK K
      try simp only [List.getElem_toArray, List.getElem_cons_succ, List.getElem_cons_zero, Act.put, List.setIfInBounds_toArray, List.set_cons_zero, List.set_cons_succ]
      refine wpAnyH_take (i := 8) (v := .pointer (some ⟨cb, 0, none⟩)) rfl (by kernel_rfl) (by kernel_rfl) (by kernel_rfl) (fun _ _ _ h => h) (Or.inl ⟨by rfl, fun w' hw' => by go_simp⟩) hH ?_
      try simp only [List.getElem_toArray, List.getElem_cons_succ, List.getElem_cons_zero, Act.put, List.setIfInBounds_toArray, List.set_cons_zero, List.set_cons_succ]
      refine wpAnyH_take (i := 9) (v := .pointer (some ⟨cb, 2, none⟩)) rfl (by kernel_rfl) (by kernel_rfl) (by kernel_rfl) (fun _ _ _ h => h) (Or.inl ⟨by rfl, fun w' hw' => by go_simp⟩) hH ?_
      try simp only [List.getElem_toArray, List.getElem_cons_succ, List.getElem_cons_zero, Act.put, List.setIfInBounds_toArray, List.set_cons_zero, List.set_cons_succ]
      refine wpAnyH_ready (rs := [10]) (by kernel_rfl) (by simp) ?_
      refine AllReadyH.cons rfl (fun K hK => ?_) AllReadyH.nil
      rw [if_pos (by rfl)]
      refine op_store_one 170 _ _ rfl cb 2 rfl v2 rfl 172 _ hB5 (by simp) (by kernel_rfl) (own_one hO5) ?_
      intro w6 hC6 hs6 hB6
      refine hK.out _ _ (hS _ ((hC5.mono (fun k hk => List.mem_cons_of_mem _ hk)).trans (hC6.mono (by simp)))) (fun hH => ?_)
      clear hK K
      try simp only [List.getElem_toArray, List.getElem_cons_succ, List.getElem_cons_zero, Act.put, List.setIfInBounds_toArray, List.set_cons_zero, List.set_cons_succ]
      refine wpAnyH_done (by kernel_rfl) ?_ _
      go_wp2_with fail
      go_meet
      exact hfin v2 w5 w6 hO5 hC5 hC6 hB6
    · rw [if_pos (by rfl)]
      refine op_buildSlice_met _ rfl mv rfl hms ?_
      refine hK.out _ _ (hS _ (hC4.mono (fun k hk => List.mem_cons_of_mem _ hk))) (fun hH => ?_)
      clear hK K
      try simp only [List.getElem_toArray, List.getElem_cons_succ, List.getElem_cons_zero, Act.put, List.setIfInBounds_toArray, List.set_cons_zero, List.set_cons_succ]
      refine wpAnyH_ready (rs := [4]) (by kernel_rfl) (by simp) ?_
      refine AllReadyH.cons rfl (fun K hK => ?_) AllReadyH.nil
      go_simp
      refine hK.out _ _ (hS _ (hC4.mono (fun k hk => List.mem_cons_of_mem _ hk))) (fun hH => ?_)
      clear hK K
      try simp only [List.getElem_toArray, List.getElem_cons_succ, List.getElem_cons_zero, Act.put, List.setIfInBounds_toArray, List.set_cons_zero, List.set_cons_succ]
      refine wpAnyH_ready (rs := [7]) (by kernel_rfl) (by simp) ?_
      refine AllReadyH.cons rfl (fun K hK => ?_) AllReadyH.nil
      rw [if_pos (by rfl)]
      refine wp_append_own _ _ _ 170 rfl base 175 i0 z0 131 1048 Tryz.underlying170 hi hz0 hz2 hz3 hz1 (by decide) v L.length (metL L) rfl hO4 ⟨w3.heap.size, 0, none⟩ 1 1 mv.toList rfl (by rw [Array.length_toList, hms]) (fun j u hu => by have hq := hX4.cell j; rw [add_mk, Nat.zero_add]; exact hq.trans (by rw [← Array.getElem?_toList]; exact hu)) hnl (by unfold maxLen; omega) (by omega) (by have := hCC3.size; simp; omega) ?_
      intro v2 w5 hO5 hg5 _
      have hC5 : Chg v.ownBlock.toList w3 w5 := hC4.grown hg5 (fun k hk => .inl (by simp [hk]))
      have hB5 := hB3.chg hC5 (by intro hk; exact hov cb (by simpa using hk) rfl)
      refine hK.out _ _ (hS _ (hC5.mono (fun k hk => List.mem_cons_of_mem _ hk))) (fun hH => ?_)
      clear hK K
      try simp only [List.getElem_toArray, List.getElem_cons_succ, List.getElem_cons_zero, Act.put, List.setIfInBounds_toArray, List.set_cons_zero, List.set_cons_succ]
      refine wpAnyH_take (i := 8) (v := .pointer (some ⟨cb, 0, none⟩)) rfl (by kernel_rfl) (by kernel_rfl) (by kernel_rfl) (fun _ _ _ h => h) (Or.inl ⟨by rfl, fun w' hw' => by go_simp⟩) hH ?_
      try simp only [List.getElem_toArray, List.getElem_cons_succ, List.getElem_cons_zero, Act.put, List.setIfInBounds_toArray, List.set_cons_zero, List.set_cons_succ]
      refine wpAnyH_take (i := 9) (v := .pointer (some ⟨cb, 2, none⟩)) rfl (by kernel_rfl) (by kernel_rfl) (by kernel_rfl) (fun _ _ _ h => h) (Or.inl ⟨by rfl, fun w' hw' => by go_simp⟩) hH ?_
      try simp only [List.getElem_toArray, List.getElem_cons_succ, List.getElem_cons_zero, Act.put, List.setIfInBounds_toArray, List.set_cons_zero, List.set_cons_succ]
      refine wpAnyH_ready (rs := [10]) (by kernel_rfl) (by simp) ?_
      refine AllReadyH.cons rfl (fun K hK => ?_) AllReadyH.nil
      rw [if_pos (by rfl)]
      refine op_store_one 170 _ _ rfl cb 2 rfl v2 rfl 172 _ hB5 (by simp) (by kernel_rfl) (own_one hO5) ?_
      intro w6 hC6 hs6 hB6
      refine hK.out _ _ (hS _ ((hC5.mono (fun k hk => List.mem_cons_of_mem _ hk)).trans (hC6.mono (by simp)))) (fun hH => ?_)
      clear hK K
      try simp only [List.getElem_toArray, List.getElem_cons_succ, List.getElem_cons_zero, Act.put, List.setIfInBounds_toArray, List.set_cons_zero, List.set_cons_succ]
      refine wpAnyH_done (by kernel_rfl) ?_ _
      go_wp2_with fail
      go_meet
      exact hfin v2 w5 w6 hO5 hC5 hC6 hB6
  case rest =>
    obtain ⟨v2, hO6, hB6, hC6⟩ := hcut
    obtain ⟨w6, hw6⟩ : ∃ w6, w6 = wc := ⟨_, rfl⟩
    rw [← hw6] at hO6 hB6 hC6 ⊢
    clear hw6
    have hS6 := hC6.size
    have hss2 := Hss2.out
    have hss3 := Hss3.out
    have hT6 := hT3.chg hC6 (by intro hk; rcases List.mem_cons.1 hk with hk | hk; omega; have := hol _ (by simpa using hk); omega)
    have hP6 := hP3.chg hC6 (by intro hk; rcases List.mem_cons.1 hk with hk | hk; omega; have := hol _ (by simpa using hk); omega)
    have hM6 := hM3.chg hC6 (by intro hk; rcases List.mem_cons.1 hk with hk | hk; exact hmc hk; exact hom _ (by simpa using hk) rfl)
    have hCw6 : Chg (mb :: cb :: v.ownBlock.toList) w w6 := (hCC3.mono (by simp)).trans (hC6.mono (fun k hk => List.mem_cons_of_mem _ hk))
    have hlp : w1.heap.size < w6.heap.size := hP6.lt
    obtain ⟨pb, hpb⟩ : ∃ pb, pb = w1.heap.size := ⟨_, rfl⟩
    have Hmv' := Hmv.out
    have hir := fun w => inrow_w n 1 (pgs n) w hl
    rw [← Hmv'] at hir
    have Hir := Lib.hid hir
    have hki := fun w => keys_inner (pgs n) (rootG ls) (x0.low, numS x0.p) w hPr (ins_root ls) (by show 0 < 1; omega) (by rw [hls0]; rfl) hlow0
    have Hki := Lib.hid hki
    have hle := fun w => len_w (pgs n) (rootG ls) w hPr
    have elen : (rootG ls).l.length = ls.length := by show (seps ls).length = _; rw [seps, List.length_map]
    rw [elen] at hle
    have Hle := Lib.hid hle
    have hm10 : ls.length ≤ 40 := by have := hMi.len; simp at this; omega
    have hmetL : metL L ++ mv.toList = metL (L ++ [Mt.mk n 1 (pgs n)]) := by rw [metL_app, Hmv']; simp [metL]
    rw [hmetL] at hO6
    obtain ⟨nba, nbm, nbw⟩ := hA.out5 hB hM hO
    clear hss2 hss3 hir hki hle elen hfl hls0 hlow0 hmetL Hmv' Hmv hS hfin hX4 hO4 hC4 c2a c2b hnl hu175 hi175
    go_wp2_with (first
      | (refine wpList_load_rowg (by rfl) 175 (.tmp 14) rfl w2.heap.size rfl 175 mv (0, 0) _ hT6 Tryz.underlying175 rfl (hms ▸ (by kernel_rfl)) ?_)
      | (go_at_call 131; refine (Hir.out _).mono ?_; rintro e w7 ⟨rfl, hC7⟩; have hP7 := hP6.ext hC7)
      | (refine wpList_load_rowg (by rfl) 72 (.tmp 12) rfl w1.heap.size rfl 72 (nums (pgs n)) (0, 0) _ hP7 Tryz.underlying72 rfl (hsz ▸ (by kernel_rfl)) ?_)
      | (go_at_call 164; refine (Hki.out _).mono ?_; rintro e w8 ⟨rfl, hC8⟩; have hP8 := hP7.ext hC8)
      | (refine wpList_load_rowg (by rfl) 72 (.tmp 12) rfl w1.heap.size rfl 72 (nums (pgs n)) (0, 0) _ hP8 Tryz.underlying72 rfl (hsz ▸ (by kernel_rfl)) ?_)
      | (go_at_call 165; refine (Hle.out _).mono ?_; rintro e w9 ⟨rfl, hC9⟩; have hP9 := hP8.ext hC9))
    have hC69 := (hC7.trans hC8).trans hC9
    have hnx : ∀ x ∈ ls, (x.p : Int) ≠ n := fun x hx e => hex1 x hx (by omega)
    have Hnx := Lib.hid hnx
    have hput : ∀ x ∈ ls.drop 0, putB f n true x.p = some false := fun x hx => by
      have hx : x ∈ ls := by simpa using hx
      unfold putB
      rw [if_neg (hnx x hx)]
      exact hfs x hx
    have hs0 := (((hB6.ext hC69)))
    obtain ⟨f0, hf0⟩ : ∃ f0, f0 = putB f n true := ⟨_, rfl⟩
    have hM9 := hM6.ext hC69
    have hf0t : ∀ p : Nat, p = n ∨ p ∈ pgsOf (ls.take 0) → f0 p = some true := fun p hp => by
      rcases hp with hp | hp
      · rw [hf0, hp]; simp [putB]
      · simp [pgsOf] at hp
    rw [← hf0] at hput hM9
    have hO9 := own_ext hO6 hC69
    have hCw9 := hCw6.trans (hC69.mono (by simp))
    have e0 : (L ++ [Mt.mk n 1 (pgs n)]).length = L.length + 1 := by simp
    rw [← e0] at hO9
    obtain ⟨L', hL'⟩ : ∃ L', L' = L ++ [Mt.mk n 1 (pgs n)] := ⟨_, rfl⟩
    rw [← hL'] at hO9 e0
    have HL' := Lib.hid hL'
    have He0 := Lib.hid e0
    clear hL' e0 hf0 hnx hO6 hB6 hM6 hT6 hP6 hP7 hP8 hM3 hB3 hP3 hO3 hT3 hM1 hB1 hP2 hmo hms hpb
    go_loopw [60] (fun i wr => ∃ (k : Nat) (v3 : Value) (f3 : Int → Option Bool), k ≤ ls.length ∧ i = .int .i64 k ∧ Blk wr cb 172 #[.pointer (some ⟨ba, 0, none⟩), .map (some mb), v3] ∧ MapB wr mb (N + 1 + k) f3 ∧ (∀ p : Nat, p = n ∨ p ∈ pgsOf (ls.take k) → f3 p = some true) ∧ (∀ x ∈ ls.drop k, f3 x.p = some false) ∧ wr.ownsRow base 175 131 v3 (L' ++ (ls.take k).map (mtOf pgs)).length (metL (L' ++ (ls.take k).map (mtOf pgs))) ∧ Chg (mb :: cb :: v.ownBlock.toList) w wr ∧ Blk wr w1.heap.size 72 (nums (pgs n))) (fun i _ => ls.length - (intOf i).toNat)
    case atStart => exact ⟨0, v2, f0, by omega, rfl, hs0, hM9, hf0t, hput, by simpa using hO9, hCw9, hP9⟩
    case round =>
      obtain ⟨k, v3, f3, hk, rfl, hB, hM, hft, hff, hO, hCr, hP⟩ := hrel
      have hhl := hCr.size
      by_cases hk2 : k < ls.length
      · obtain ⟨x, hx⟩ : ∃ x, ls[k]? = some x := ⟨_, List.getElem?_eq_getElem hk2⟩
        have hdr : ls.drop k = x :: ls.drop (k + 1) := by rw [List.drop_eq_getElem_cons hk2, (List.getElem?_eq_some_iff.1 hx).2]
        have htk : ls.take (k + 1) = ls.take k ++ [x] := by rw [List.take_add_one, hx]; rfl
        have hsp : ls = ls.take k ++ (x :: ls.drop (k + 1)) := by rw [← hdr, List.take_append_drop]
        have hxm : x ∈ ls := List.mem_of_getElem? hx
        obtain ⟨rx1, rx2⟩ := hMi.rng hxm
        have hMk : Mid fr pgs (ls.take k ++ (x :: ls.drop (k + 1))) [n] fl := by rw [← hsp]; exact hMi
        have hLf := hMk.fence.1
        have hnd := hMk.allIn
        have hsep : (rootG ls).l[k]? = some (x.low, numS x.p) := by show (seps ls)[k]? = _; rw [seps, List.getElem?_map, hx]; rfl
        have hca := fun w => child_at_w (pgs n) (rootG ls) k x.p (x.low, numS x.p) w hPr hsep (by show (1 : Nat) ≠ 0; omega) (by omega) rfl
        have hfc := fun w => fchild_w (pgs n) (rootG ls) k (x.low, numS x.p) w hPr hsep (by show (1 : Nat) ≠ 0; omega)
        rw [hiOf_root] at hfc
        have hlx : (pgs x.p).length = 128 := hLf.is.head.len
        have hll' : (L' ++ (ls.take k).map (mtOf pgs)).length ≤ 100 := by rw [List.length_append, He0.out, List.length_map, List.length_take]; omega
        have hfx : f3 x.p = some false := hff x (by rw [hdr]; simp)
        have hme := fun w hA hB hM hO hb => meet0_w cb ba bm bw fr n mb (N + 1 + k) x.p base pgs x.low (hiL ⟨#[]⟩ (ls.drop (k + 1))) false f3 v3 (L' ++ (ls.take k).map (mtOf pgs)) w hA hB hM hO hb hlx hll'
          (fun w hA hB hM => flaw_leaf cb ba bm bw fr n mb (N + 1 + k) x.p (nxL 0 (ls.drop (k + 1))) pgs x.low (hiL ⟨#[]⟩ (ls.drop (k + 1))) x.l f3 v3 w hA hB hM (by omega) hfx rx1 rx2 hLf.is hLf.ins (hld x hxm))
        have Hca := Lib.hid hca
        have Hfc := Lib.hid hfc
        have Hme := Lib.hid hme
        have Htk := Lib.hid htk
        have Hdr := Lib.hid hdr
        have Hnd := Lib.hid hnd
        have Hff := Lib.hid hff
        have Hft := Lib.hid hft
        have hAr := hA.chg hCr nba nbm nbw
        have hbr : base ≤ wr.heap.size := by omega
        clear hca hfc hme htk hdr hnd hx hsp hMk hLf hsep hlx hll' hff hft hfx
        go_wp2_with (first
          | (refine wpList_load_rowg (by rfl) 72 (.tmp 12) rfl w1.heap.size rfl 72 (nums (pgs n)) (0, 0) _ hP Tryz.underlying72 rfl (hsz ▸ (by kernel_rfl)) ?_)
          | (go_at_call 166; refine (Hca.out _).mono ?_; rintro e wa ⟨rfl, hCa⟩; have hPa := hP.ext hCa)
          | (refine wpList_load_rowg (by rfl) 72 (.tmp 12) rfl w1.heap.size rfl 72 (nums (pgs n)) (0, 0) _ hPa Tryz.underlying72 rfl (hsz ▸ (by kernel_rfl)) ?_)
          | (go_at_call 167; refine (Hfc.out _).mono ?_; rintro e wb ⟨rfl, hCb⟩; have hCab := hCa.trans hCb)
          | (go_at_call 130; go_loud (refine (Hme.out _ (hAr.ext hCab) (hB.ext hCab) (hM.ext hCab) (own_ext hO hCab) (by have := hCab.size; omega)).mono ?_); rintro e wc ⟨v4, rfl, hB4, hM4, hO4, hC4⟩))
        go_roundw
        case rel =>
          have hO' := own_ext hO hCab
          have hPb := hP.ext hCab
          have hC4w : Chg (mb :: cb :: v.ownBlock.toList) w wc := (hCr.nil hCab).on hC4 (fun i hi => by
            rcases List.mem_cons.1 hi with hi | hi
            · exact .inl (by simp [hi])
            · rcases List.mem_cons.1 hi with hi | hi
              · exact .inl (by simp [hi])
              · exact .inr (by have := (hO'.lt i (by simpa using hi)).1; omega))
          refine ⟨k + 1, v4, _, by omega, by go_num, hB4, hM4, fun p hp => ?_, fun y hy => ?_, ?_, hC4w, hPb.chg hC4 (fun hm => ?_)⟩
          · unfold putB
            by_cases e : (p : Int) = x.p
            · rw [if_pos e]
            · rw [if_neg e]
              refine Hft.out p ?_
              rcases hp with hp | hp
              · exact .inl hp
              · rw [Htk.out, pgsOf, List.map_append, List.mem_append] at hp
                rcases hp with hp | hp
                · exact .inr hp
                · exact absurd (by simp at hp; rw [hp]) e
          · have hnd := Hnd.out
            rw [pgsOf, List.map_append, List.map_cons, List.nodup_append] at hnd
            have hne : y.p ≠ x.p := fun e => (List.nodup_cons.1 hnd.2.1).1 (List.mem_map.2 ⟨y, hy, e⟩)
            unfold putB
            rw [if_neg (by omega)]
            exact Hff.out y (by rw [Hdr.out]; simp [hy])
          · rw [Htk.out, List.map_append, ← List.append_assoc]
            exact hO4
          · rcases List.mem_cons.1 hm with hm | hm
            · exact hM.ne hP hm.symm
            · rcases List.mem_cons.1 hm with hm | hm
              · exact hP.ne_ hB (by decide) hm
              · exact own_ne hO hP (by decide) (by simpa using hm) rfl
        case measure => simp [intOf]; omega
      · obtain rfl : k = ls.length := by omega
        have e1 := List.take_of_length_le (Nat.le_refl ls.length)
        rw [e1] at hO hft
        clear e1
        go_wp2
        go_end0
        have hvn : v.ownBlock = none := by
          cases e : v.ownBlock with
          | none => rfl
          | some q => have := hol q e; have := hvb q e; omega
        rw [hvn] at hCr
        refine ⟨v3, f3, rfl, hB, hM, hft, ?_, hCr⟩
        have e2 : L ++ Mt.mk n 1 (pgs n) :: ls.map (mtOf pgs) = L' ++ ls.map (mtOf pgs) := by rw [HL'.out]; simp
        rw [e2]
        exact hO

end Go.Proofs.YtpcaadipejnllaaGreatDoor
