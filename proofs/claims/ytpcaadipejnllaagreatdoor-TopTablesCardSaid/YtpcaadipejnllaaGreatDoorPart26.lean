/- The checker: all is met. -/
import Derived.Test.YtpcaadipejnllaaGreatDoorPart25
import Derived.Test.YtpcaadipejnllaaGreatDoorPart02
import Derived.Test.YtpcaadipejnllaaGreatDoorPart17
import Derived.Test.YtpcaadipejnllaaGreatDoorPart18

set_option linter.unusedVariables false
set_option linter.unusedSimpArgs false
namespace Go.Proofs.YtpcaadipejnllaaGreatDoor
open Go.RowKit

theorem Fre.no {pgs : Nat → List Nat} : ∀ {fl : List Nat} {fr : Nat}, Fre pgs fr fl → ∀ p ∈ fl, usedB pgs p = false
  | [], _, _, _, h => by cases h
  | q :: fl, _, ⟨_, h2, h3⟩, p, h => by
    rcases List.mem_cons.1 h with h | h
    · rw [h]; exact h2
    · exact Fre.no h3 p h
theorem usedUp_mem {pgs : Nat → List Nat} {z : Int} (h : z ∈ usedUp pgs 40) : ∃ p : Nat, z = p ∧ 1 ≤ p ∧ p ≤ 40 ∧ usedB pgs p = true := by
  unfold usedUp at h
  obtain ⟨p, hp, rfl⟩ := List.mem_map.1 h
  obtain ⟨hp, hu⟩ := List.mem_filter.1 hp
  obtain ⟨q, hq, rfl⟩ := List.mem_map.1 hp
  exact ⟨q + 1, rfl, by omega, by have := List.mem_range.1 hq; omega, hu⟩
theorem mem_usedUp {pgs : Nat → List Nat} {p : Nat} (h0 : 1 ≤ p) (h1 : p ≤ 40) (h : usedB pgs p = true) : (p : Int) ∈ usedUp pgs 40 := by
  unfold usedUp
  exact List.mem_map.2 ⟨p, List.mem_filter.2 ⟨List.mem_map.2 ⟨p - 1, List.mem_range.2 (by omega), by omega⟩, h⟩, rfl⟩
section
variable {fr rt : Nat} {pgs : Nat → List Nat} {ls : List Lf} {fl : List Nat}
theorem TreeP.mid (hP : TreeP fr rt pgs ls fl) : ∃ ex, Mid fr pgs ls ex fl := by
  cases id hP with
  | one x e r m => exact ⟨[], m⟩
  | many n m p l => exact ⟨[rt], m⟩
theorem TreeP.all (hP : TreeP fr rt pgs ls fl) {p : Nat} (h0 : 1 ≤ p) (h1 : p ≤ 40) (hu : usedB pgs p = true) : p = rt ∨ p ∈ pgsOf ls := by
  have key : ∀ ex, Mid fr pgs ls ex fl → p ∈ ex ∨ p ∈ pgsOf ls := fun ex m => by
    have := (m.mem p).2 ⟨h0, h1⟩
    rcases List.mem_append.1 this with h | h
    · exact List.mem_append.1 h
    · have := m.free.no p h
      rw [hu] at this; cases this
  cases id hP with
  | one x e r m =>
    rcases key _ m with h | h
    · cases h
    · exact .inr h
  | many n m pp l =>
    rcases key _ m with h | h
    · exact .inl (by simpa using h)
    · exact .inr h
theorem TreeP.rtr (hP : TreeP fr rt pgs ls fl) : 1 ≤ rt ∧ rt ≤ 40 ∧ usedB pgs rt = true := by
  cases id hP with
  | one x e r m =>
    have hx : x ∈ ls := by rw [e]; simp
    rw [r]
    exact ⟨(m.rng hx).1, (m.rng hx).2, m.used hx⟩
  | many n m p l => exact ⟨m.exn.2.2.1, m.exn.2.2.2, used_is p⟩
end

/-- What the meeting of all pages leaves. -/
def MeetR (rt : Nat) (pgs : Nat → List Nat) (ls : List Lf) (ba cb mb N base : Nat) (w w' : World) : Prop :=
  ∃ (v : Value) (f : Int → Option Bool) (pre : List Mt), (pre = [] ∨ (pre = [Mt.mk rt 1 (pgs rt)] ∧ IsPage (pgs rt) (rootG ls))) ∧ Blk w' cb 172 #[.pointer (some ⟨ba, 0, none⟩), .map (some mb), v] ∧ MapB w' mb (N + 1 + ls.length) f ∧ (∀ p : Nat, p = rt ∨ p ∈ pgsOf ls → f p = some true) ∧
    w'.ownsRow base 175 131 v (pre ++ ls.map (mtOf pgs)).length (metL (pre ++ ls.map (mtOf pgs))) ∧ Chg [mb, cb] w w'

set_option maxRecDepth 100000 in
set_option maxHeartbeats 4000000 in
theorem meet_w (cb ba bm bw fr rt mb N : Nat) (pgs : Nat → List Nat) (ls : List Lf) (fl : List Nat) (f : Int → Option Bool) (w : World) (hA : ArS w ba bm bw fr rt pgs) (hP : TreeP fr rt pgs ls fl) (hB : Blk w cb 172 #[.pointer (some ⟨ba, 0, none⟩), .map (some mb), .slice none 0 0]) (hM : MapB w mb N f) (hN : N ≤ 500) (hf : ∀ p : Nat, 1 ≤ p → p ≤ 40 → usedB pgs p = true → f p = some false) :
    Calls Tryz.prog 130 #[.pointer (some ⟨cb, 0, none⟩), .int .i64 rt, .int .i64 (wd (pgs rt) 8 - 1), .string ⟨#[]⟩, .string ⟨#[]⟩, .bool true] w fun e w' => e = .returned (.tuple #[]) ∧ MeetR rt pgs ls ba cb mb N w.heap.size w w' := by
  obtain ⟨r1, r2, r3⟩ := hP.rtr
  cases id hP with
  | one x e r m =>
    have hx : x ∈ ls := by rw [e]; simp
    have hm := m
    rw [e] at hm
    have hLf := (Mid.fence (A := []) (B := []) (x := x) hm).1
    have h8 : wd (pgs rt) 8 - 1 = 0 := by rw [r, hLf.is.head.kind]; rfl
    rw [h8, r]
    have hlx : (pgs x.p).length = 128 := hLf.is.head.len
    refine (meet0_w cb ba bm bw fr rt mb N x.p w.heap.size pgs ⟨#[]⟩ ⟨#[]⟩ true f (.slice none 0 0) [] w hA hB hM (World.ownsRow_nil _ _ _ _) (Nat.le_refl _) hlx (by simp) (fun w hA hB hM => ?_)).mono ?_
    · have hlow : x.low = ⟨#[]⟩ := by
        obtain ⟨x1, r1, h1, h2⟩ := m.low0
        rw [e] at h1
        cases h1
        exact h2
      have h1 := hLf.is
      have h2 := hLf.ins
      simp only [pgL, hlow] at h1 h2
      exact flaw_one cb ba bm bw fr rt mb N x.p 0 pgs ⟨#[]⟩ ⟨#[]⟩ x.l f _ w hA hB hM (by omega) (by rw [← r]; exact hf rt r1 r2 r3) (by omega) (by omega) h1 h2
    · rintro e1 w1 ⟨v, rfl, h1, h2, h3, h4⟩
      refine ⟨rfl, v, putB f x.p true, [], .inl rfl, h1, by rw [e]; exact h2.mono (by simp), fun p hp => ?_, ?_, h4⟩
      · have : p = x.p := by rcases hp with hp | hp; exact hp; rw [e] at hp; simpa [pgsOf] using hp
        rw [this]; simp [putB]
      · rw [e]; exact h3
  | many n m p l =>
    have h8 : wd (pgs rt) 8 - 1 = 1 := by rw [p.head.kind]; rfl
    rw [h8]
    refine (meet1_w cb ba bm bw fr rt mb N w.heap.size pgs ls fl f (.slice none 0 0) [] w hA hB hM (World.ownsRow_nil _ _ _ _) (Nat.le_refl _) (Nat.le_refl _) (by simp) hN m p n l (hf rt r1 r2 r3) (fun x hx => hf x.p (m.rng hx).1 (m.rng hx).2 (m.used hx))).mono ?_
    rintro e1 w1 ⟨v, f', rfl, h1, h2, h3, h4, h5⟩
    exact ⟨rfl, v, f', [Mt.mk rt 1 (pgs rt)], .inr ⟨rfl, p⟩, h1, h2, h3, h4, h5⟩

/-- What the checker says of a tree. -/
def CheckR (pgs : Nat → List Nat) (ba base cb mb : Nat) (w : World) (v : Value) (f : Int → Option Bool) (L : List Mt) (N : Nat) (w' : World) : Prop :=
  Blk w' cb 172 #[.pointer (some ⟨ba, 0, none⟩), .map (some mb), v] ∧ MapB w' mb N f ∧ (∀ z ∈ usedUp pgs 40, f z = some true) ∧ w'.ownsRow base 175 131 v L.length (metL L) ∧ (∀ m ∈ L, m.pg.length = 128) ∧ L.length ≤ 100 ∧ Chg [] w w'

theorem step_facts {fr rt : Nat} {pgs : Nat → List Nat} {ls : List Lf} {ex fl : List Nat} {pre L : List Mt} (hpre : pre = [] ∨ (pre = [Mt.mk rt 1 (pgs rt)] ∧ IsPage (pgs rt) (rootG ls))) (hMi : Mid fr pgs ls ex fl) (hL : L = pre ++ ls.map (mtOf pgs)) (u : Nat) (a0 a1 : Int) (hu : u + 1 ≤ L.length)
    (hNx : pre.length ≤ u + 1 → a0 = (nxL 0 (ls.drop (u + 1 - pre.length)) : Nat) ∧ a1 = 0) :
    ∃ (n : Nat) (pg : List Nat) (g : PG), pg.length = 128 ∧ IsPage pg g ∧ ((L[u]? = some ⟨n, 0, pg⟩ ∧ a0 = (g.next : Nat) ∧ (pre.length ≤ u → (n : Int) = (nxL 0 (ls.drop (u - pre.length)) : Nat) ∧ a1 = 0)) ∨ (L[u]? = some ⟨n, 1, pg⟩ ∧ a1 = (g.next : Nat) ∧ ¬ pre.length ≤ u)) := by
  by_cases h : pre.length ≤ u
  · have hj : u - pre.length < ls.length := by rw [hL, List.length_append, List.length_map] at hu; omega
    obtain ⟨x, hx⟩ : ∃ x, ls[u - pre.length]? = some x := ⟨_, List.getElem?_eq_getElem hj⟩
    have hdr : ls.drop (u - pre.length) = x :: ls.drop (u - pre.length + 1) := by rw [List.drop_eq_getElem_cons hj, (List.getElem?_eq_some_iff.1 hx).2]
    have hsp : ls = ls.take (u - pre.length) ++ (x :: ls.drop (u - pre.length + 1)) := by rw [← hdr, List.take_append_drop]
    have hMk : Mid fr pgs (ls.take (u - pre.length) ++ (x :: ls.drop (u - pre.length + 1))) ex fl := by rw [← hsp]; exact hMi
    have hLf := hMk.fence.1.is
    obtain ⟨e1, e2⟩ := hNx (by omega)
    refine ⟨x.p, pgs x.p, _, hLf.head.len, hLf, .inl ⟨?_, ?_, fun _ => ⟨?_, e2⟩⟩⟩
    · rw [hL, List.getElem?_append_right h, List.getElem?_map, hx]; rfl
    · rw [e1, show u + 1 - pre.length = u - pre.length + 1 by omega]; rfl
    · rw [hdr]; rfl
  · rcases hpre with rfl | ⟨rfl, hp⟩
    · simp at h
    · simp at h
      subst h
      refine ⟨rt, pgs rt, rootG ls, hp.head.len, hp, .inr ⟨by rw [hL]; rfl, ?_, by simp⟩⟩
      rw [(hNx (by simp)).2]; rfl

set_option maxRecDepth 100000 in
set_option maxHeartbeats 4000000 in
theorem check_w (ba bm bw fr rt : Nat) (pgs : Nat → List Nat) (ls : List Lf) (fl : List Nat) (w : World) (hA : ArS w ba bm bw fr rt pgs) (hP : TreeP fr rt pgs ls fl) :
    Calls Tryz.prog 97 #[.pointer (some ⟨ba, 0, none⟩)] w fun e w' => ∃ cb mb v f L N, e = .returned (.tuple #[.pointer (some ⟨cb, 0, none⟩), .int .i64 0]) ∧ CheckR pgs ba w.heap.size cb mb w v f L N w' := by
  obtain ⟨r1, r2, r3⟩ := hP.rtr
  obtain ⟨exl, hMi⟩ := hP.mid
  have hl : (pgs rt).length = 128 := by
    obtain ⟨ws, h1, h2⟩ := hA
    exact (h2.pg rt r1 r2).1
  have hsz : (nums (pgs rt)).size = 128 := by rw [nums_size]; exact hl
  have hone : (nums (pgs rt)).all (·.oneCell') = true := nums_one _
  have hrd := fun w hA => read_s ba bm bw fr rt pgs rt w hA (by omega) (by omega)
  rw [Int.toNat_natCast] at hrd
  have Hrd := Lib.hid hrd
  clear hrd
  go_enter Tryz.func97, Tryz.ntmps97
  have hlsp : 0 < ls.length := by obtain ⟨x1, r1, h1, _⟩ := hMi.low0; rw [h1]; simp
  have hmm := @run_makeMap Tryz.prog
  have hul := fun w hA => used_list_s ba bm bw fr rt pgs w hA
  obtain ⟨us, hus⟩ : ∃ us, us = usedUp pgs 40 := ⟨_, rfl⟩
  have hus1 : ∀ z ∈ us, (Lit.int .i64 z).wf = true := fun z hz => by
    obtain ⟨p, rfl, h0, h1, _⟩ := usedUp_mem (hus ▸ hz)
    exact WalkArith.wf_i64 (by omega)
  have hus2 : us.length ≤ 40 := by
    rw [hus]; unfold usedUp
    rw [List.length_map]
    exact Nat.le_trans (List.length_filter_le _ _) (by simp)
  have hup : 0 < us.length := by rw [hus]; exact List.length_pos_of_mem (mem_usedUp r1 r2 r3)
  rw [← hus] at hul
  have Hul := Lib.hid hul
  have Hus := Lib.hid hus
  clear hul hus
  go_wp2_with (first
    | (go_at_call 128; refine (counts_s ba bm bw fr rt pgs _ hA).mono ?_; rintro e w1 ⟨ca, cc, cd, rfl, hC1⟩; have hA1 := hA.ext hC1)
    | (go_at_call 98; go_loud (refine (Hul.out _ (hA1.ext (((Chg.refl _ _).alloc _).alloc _))).mono ?_); rintro e w2 ⟨uv, rfl, hO2, hC2⟩; obtain ⟨su, ou, uc, rfl, hsu, hux⟩ := own_at hO2 hup))
  obtain ⟨mb, hmb⟩ : ∃ mb, mb = w1.heap.size := ⟨_, rfl⟩
  obtain ⟨cb, hcb⟩ : ∃ cb, cb = mb + 1 := ⟨_, rfl⟩
  have hM2 : MapB w2 mb 0 (fun _ => none) := by rw [hmb]; exact ((MapB.made w1).ext ((Chg.refl _ _).alloc _)).ext hC2
  have hB2 : Blk w2 cb 172 #[.pointer (some ⟨ba, 0, none⟩), .map (some mb), .slice none 0 0] := by rw [hcb, hmb]; exact (Blk.newEq (by simp)).ext hC2
  rw [← hmb, ← hcb]
  have hCw2 : Chg [] w w2 := hC1.trans ((((Chg.refl [] w1).alloc _).alloc _).trans hC2)
  have hwmb : w.heap.size ≤ mb := by have := hC1.size; omega
  have hwcb : w.heap.size ≤ cb := by omega
  have hmc := hM2.ne hB2
  have hsm : su ≠ mb := own_nm hO2 hM2 rfl
  clear hmb hcb
  go_loopw [33] (fun i wr => ∃ (k : Nat) (f : Int → Option Bool), k ≤ us.length ∧ i = .int .i64 k ∧ MapB wr mb k f ∧ (∀ z ∈ us.take k, f z = some false) ∧ Blk wr cb 172 #[.pointer (some ⟨ba, 0, none⟩), .map (some mb), .slice none 0 0] ∧ Chg [mb] w2 wr) (fun i _ => us.length - (intOf i).toNat)
  case atStart => exact ⟨0, _, by omega, rfl, hM2, by simp, hB2, Chg.refl _ _⟩
  case round =>
    obtain ⟨k, f, hk, rfl, hM, hf, hB, hC⟩ := hrel
    have b1 : wr.cell? ⟨cb, 1, none⟩ = some (.map (some mb)) := hB.cell 1
    by_cases hk2 : k < us.length
    · obtain ⟨z, hz⟩ : ∃ z, us[k]? = some z := ⟨_, List.getElem?_eq_getElem hk2⟩
      have hcz : wr.cell? ⟨su, ou + k, none⟩ = some (.int .i64 z) := by
        rw [hC.cell hsu (by simpa using hsm), hux k (by omega)]
        simp [ints, hz]
      have hzw := hus1 z (List.mem_of_getElem? hz)
      have htk : us.take (k + 1) = us.take k ++ [z] := by rw [List.take_add_one, hz]; rfl
      clear hz
      go_wp2_with (first
        | (refine wpList_mapUpdate_b rfl (.tmp 40) (.tmp 41) (.const (.bool false)) rfl mb k f rfl hM (by omega) z false rfl rfl hzw ?_; intro w4 hM4 hC4))
      go_roundw
      case rel =>
        refine ⟨k + 1, _, by omega, by go_num, hM4, fun y hy => ?_, hB.chg hC4 (by simpa using hmc.symm), hC.trans hC4⟩
        unfold putB
        by_cases e : y = z
        · rw [if_pos e]
        · rw [if_neg e]
          rw [htk] at hy
          rcases List.mem_append.1 hy with hy | hy
          · exact hf y hy
          · exact absurd (by simpa using hy) e
      case measure => simp [intOf]; omega
    · obtain rfl : k = us.length := by omega
      have hff : ∀ p : Nat, 1 ≤ p → p ≤ 40 → usedB pgs p = true → f p = some false := fun p h0 h1 hu => hf p (by rw [List.take_of_length_le (Nat.le_refl _), Hus.out]; exact mem_usedUp h0 h1 hu)
      have hCw : Chg [] w wr := hCw2.on hC (fun i hi => .inr (by simp at hi; omega))
      have hAr := hA.ext hCw
      have hrt := fun w hA => root_s ba bm bw fr rt pgs w hA (by omega)
      have Hrt := Lib.hid hrt
      obtain ⟨lw, hlw⟩ : ∃ lw, lw = wd (pgs rt) 8 := ⟨_, rfl⟩
      have hme := fun w hA hB hM => meet_w cb ba bm bw fr rt mb us.length pgs ls fl f w hA hP hB hM (by omega) hff
      rw [← hlw] at hme
      have hl12 : 1 ≤ lw ∧ lw ≤ 2 := by
        rw [hlw]
        cases id hP with
        | one x e r m =>
          rw [e] at m
          have := (Mid.fence (A := []) (B := []) (x := x) m).1.is.head.kind
          rw [r, this]; show (1 : Int) ≤ ((0 : Nat) : Int) + 1 ∧ ((0 : Nat) : Int) + 1 ≤ 2; omega
        | many n m p l => rw [p.head.kind]; show (1 : Int) ≤ ((1 : Nat) : Int) + 1 ∧ ((1 : Nat) : Int) + 1 ≤ 2; omega
      have e1 : IntKind.i64.wrap lw = lw := by rw [IntKind.wrap_i64]; omega
      have e2 : wrap64 (lw - 1) = lw - 1 := by unfold wrap64; omega
      have Hme := Lib.hid hme
      have Hlw := Lib.hid hlw
      clear hlw
      clear hf hrt hux hme
      go_wp2_with (first
        | (go_at_call 109; refine (Hrt.out _ hAr).mono ?_; rintro e w4 ⟨rfl, hC4⟩; have hA4 := hAr.ext hC4)
        | (go_at_call 129; refine (Hrd.out _ hA4).mono ?_; rintro e w5 ⟨rfl, hC5⟩)
        | (refine wpList_store_blk rfl 72 (.tmp 12) (.tmp 48) rfl w5.heap.size rfl (nums (pgs rt)) rfl 72 _ (Blk.new w5 72 _) (hsz ▸ (by kernel_rfl)) (by rw [hsz]; rfl) hone ?_; intro w6 hC6 hs6 hP6; have hC46 : Chg [] wr w6 := ((hC4.trans hC5).alloc _).on hC6 (fun i hi => .inr (by simp at hi; have := (hC4.trans hC5).size; omega)); have k8 := hP6.num 8 (by omega); rw [← Hlw.out] at k8; have hA6 := hAr.ext hC46; clear hs6)
        | (go_at_call 109; refine (Hrt.out _ hA6).mono ?_; rintro e w7 ⟨rfl, hC7⟩; have hC67 := hC46.trans hC7)
        | (go_at_call 130; go_loud (refine (Hme.out _ (hAr.ext hC67) (hB.ext hC67) (hM.ext hC67)).mono ?_); rintro e w8 ⟨rfl, v8, f8, pre, hpre, hB8, hM8, hf8, hO8, hC8⟩; obtain ⟨L, hL⟩ : ∃ L, L = pre ++ ls.map (mtOf pgs) := ⟨_, rfl⟩; rw [← hL] at hO8; have hLp : 0 < L.length := (by rw [hL]; simp; omega); have HL := Lib.hid hL; clear hL; obtain ⟨s8, o8, c8, rfl, hs8, hx8⟩ := own_at hO8 hLp; have Hx8 := Lib.hid hx8; clear hx8; have b8 : (w8.alloc (.cells #[.int .i64 0, .int .i64 0, .int .i64 0, .int .i64 0, .int .i64 0, .int .i64 0] 218)).cell? ⟨cb, 2, none⟩ = some (.slice (some ⟨s8, o8, none⟩) L.length c8) := (hB8.alloc _).cell 2))
      obtain ⟨nb, hnb⟩ : ∃ nb, nb = w8.heap.size := ⟨_, rfl⟩
      have hN8 : Blk (w8.alloc (.cells #[.int .i64 0, .int .i64 0, .int .i64 0, .int .i64 0, .int .i64 0, .int .i64 0] 218)) nb 218 #[.int .i64 0, .int .i64 0, .int .i64 0, .int .i64 0, .int .i64 0, .int .i64 0] := by rw [hnb]; exact Blk.new _ _ _
      have hC89 : Chg [] w8 (w8.alloc (.cells #[.int .i64 0, .int .i64 0, .int .i64 0, .int .i64 0, .int .i64 0, .int .i64 0] 218)) := (Chg.refl _ _).alloc _
      obtain ⟨w9, hw9⟩ : ∃ w9, w8.alloc (.cells #[.int .i64 0, .int .i64 0, .int .i64 0, .int .i64 0, .int .i64 0, .int .i64 0] 218) = w9 := ⟨_, rfl⟩
      rw [hw9] at hN8 hC89 b8 ⊢
      rw [← hnb]
      have hns8 : s8 < nb := by omega
      have hll : L.length ≤ 41 := by
        have := hMi.len
        rw [HL.out, List.length_append, List.length_map]
        rcases hpre with rfl | ⟨rfl, _⟩ <;> simp <;> omega
      have hwr : wrap64 ((L.length : Int) - 1) = (L.length : Int) - 1 := by unfold wrap64; omega
      rw [hwr]
      have Hnb := Lib.hid hnb
      have hCw9 : Chg [] w w9 := ((hCw.trans hC67).on hC8 (fun i hi => .inr (by simp at hi; omega))).trans hC89
      have hlen : ∀ m ∈ L, m.pg.length = 128 := fun m hm => by
        rw [HL.out] at hm
        rcases List.mem_append.1 hm with hm | hm
        · rcases hpre with rfl | ⟨rfl, hp⟩
          · cases hm
          · simp at hm; rw [hm]; exact hp.head.len
        · obtain ⟨x, hx, rfl⟩ := List.mem_map.1 hm
          exact (List.append_of_mem hx).elim (fun A ⟨B, e⟩ => by rw [e] at hMi; exact (hMi.fence (A := A) (x := x) (B := B)).1.is.head.len)
      have Hlen := Lib.hid hlen
      clear hlen
      have hncb : nb ≠ cb := by have := hB8.lt; omega
      have hcl : cb < w9.heap.size := Nat.lt_of_lt_of_le hB8.lt hC89.size
      have hsl : s8 < w9.heap.size := Nat.lt_of_lt_of_le hs8 hC89.size
      clear hw9 hwr hnb
      go_loopw [15] (fun i wx => ∃ (t : Nat) (a0 a1 : Int), t ≤ L.length ∧ i = .int .i64 ((t : Int) - 1) ∧ Blk wx nb 218 #[.int .i64 a0, .int .i64 a1, .int .i64 0, .int .i64 0, .int .i64 0, .int .i64 0] ∧ Chg [nb] w9 wx ∧ (pre.length ≤ t → a0 = (nxL 0 (ls.drop (t - pre.length)) : Nat) ∧ a1 = 0)) (fun i _ => (intOf i + 1).toNat)
      case atStart =>
        refine ⟨L.length, 0, 0, Nat.le_refl _, rfl, hN8, Chg.refl _ _, fun _ => ⟨?_, rfl⟩⟩
        rw [HL.out, List.length_append, Nat.add_sub_cancel_left, List.length_map, List.drop_length]; rfl
      case round =>
        obtain ⟨t, a0, a1, ht, rfl, hNb, hCx, hNx⟩ := hrel
        rcases t with _ | u
        · go_wp2
          go_ret2
          have hCf : Chg [] w wr := hCw9.on hCx (fun i hi => .inr (by simp at hi; have := hCw9.size; have := Hnb.out; have := hC8.size; have := hCw.size; have := hC67.size; omega))
          have hmb8 := hM8.lt
          refine ⟨cb, mb, _, f8, L, _, rfl, (hB8.ext hC89).chg hCx (by simpa using hncb.symm), (hM8.ext hC89).chg hCx (by simp; have := Hnb.out; omega), fun z hz => ?_, ?_, Hlen.out, by omega, hCf⟩
          · obtain ⟨p, rfl, h0, h1, hu⟩ := usedUp_mem hz
            exact hf8 p (hP.all h0 h1 hu)
          · exact own_base (own_chg (own_ext hO8 hC89) hCx (fun k hk hm => by simp [Value.ownBlock] at hk hm; omega)) (by have := hCw.size; have := hC67.size; omega)
        · obtain ⟨n, pg, g, hlg, hIs, hcase⟩ := step_facts hpre hMi HL.out u a0 a1 ht hNx
          have hu1 : (((u + 1 : Nat) : Int) - 1) = (u : Int) := by omega
          have hhw : w9.heap.size ≤ wr.heap.size := hCx.size
          have hmt := fun lv (hg : L[u]? = some ⟨n, lv, pg⟩) W (hW : Chg [nb] w9 W) j (hj : j < 131) => show W.cell? ⟨s8, o8 + u * 131 + j, none⟩ = (metV n lv pg 0)[j]? by
            rw [hW.cell hsl (by simp; omega), hC89.cell hs8 (by simp), Nat.add_assoc, Hx8.out _ (by omega)]
            exact metL_get (fun m hm => Hlen.out m hm) u _ hg j hj
          have b9 : wr.cell? ⟨cb, 2, none⟩ = some (.slice (some ⟨s8, o8, none⟩) L.length c8) := by
            rw [hCx.cell hcl (by simpa using hncb.symm), hC89.cell hB8.lt (by simp)]; exact hB8.cell 2
          rw [hu1]
          rcases hcase with ⟨hg, rfl, hnx⟩ | ⟨hg, rfl, hnx⟩
          · have hmt' := hmt 0 hg
            obtain ⟨ml, hml⟩ : ∃ ml, ml = (metV n 0 pg 0).toList := ⟨_, rfl⟩
            have hir := fun w => inrow_w n 0 pg w hlg
            have hml2 : ml.toArray = metV n 0 pg 0 := by rw [hml, Array.toArray_toList]
            rw [← hml2] at hir
            have Hir := Lib.hid hir
            have hi175 : (Tryz.prog.info? 175).map (·.size) = some ml.length := by rw [hml, Array.length_toList, metV_size _ _ _ _ hlg]; kernel_rfl
            have hi72 : (Tryz.prog.info? 72).map (·.size) = some (nums pg).toList.length := by rw [Array.length_toList, nums_size, hlg]; kernel_rfl
            have hr : wr.rangeAt s8 (o8 + u * 131) ml := fun j v hv => by
              have hj : j < 131 := by have := (List.getElem?_eq_some_iff.1 hv).1; rw [hml, Array.length_toList, metV_size _ _ _ _ hlg] at this; exact this
              rw [hmt' _ hCx j hj, ← Array.getElem?_toList, ← hml]; exact hv
            have m130 := metV_flaw n 0 pg 0 hlg
            have mw := metV_word n 0 pg 0 hlg
            have hSS : ∀ W, Chg [nb] w9 W → W.cell? ⟨s8, o8 + u * 131, none⟩ = some (.int .i64 (n : Nat)) ∧ W.cell? ⟨s8, o8 + u * 131 + 1, none⟩ = some (.int .i64 0) ∧ W.cell? ⟨s8, o8 + u * 131 + 130, none⟩ = some (.int .i64 0) ∧ W.rangeAt s8 (o8 + u * 131 + 2) (nums pg).toList := fun W hW =>
              ⟨(hmt' W hW 0 (by omega)).trans rfl, (hmt' W hW 1 (by omega)).trans rfl, (hmt' W hW 130 (by omega)).trans m130, fun j v hv => by
                have hj : j < 128 := by have := (List.getElem?_eq_some_iff.1 hv).1; rw [Array.length_toList, nums_size, hlg] at this; exact this
                rw [Nat.add_assoc, hmt' W hW (2 + j) (by omega), mw j hj]; exact hv⟩
            clear hml hml2 hir m130 mw hmt' hmt hg
            go_upto_region 21 with (first
              | (refine wpList_load_rng (by rfl) 175 (.tmp 78) rfl s8 (o8 + u * 131) rfl ml _ hr Tryz.underlying175 rfl hi175 ?_)
              | (go_at_call 131; refine (Hir.out _).mono ?_; rintro e wi ⟨rfl, hCi⟩))
            have hCxi := hCx.trans (hCi.mono (by simp))
            have hNi := hNb.ext hCi
            have hS : ∀ W, Chg [] wi W → (W.cell? ⟨s8, o8 + u * 131 + 130, none⟩ = some (.int .i64 0) ∧ W.rangeAt s8 (o8 + u * 131 + 2) (nums pg).toList ∧ W.cell? ⟨s8, o8 + u * 131 + 1, none⟩ = some (.int .i64 0) ∧ W.cell? ⟨nb, 0, none⟩ = some (.int .i64 (g.next : Nat))) := fun W hW => by
              obtain ⟨h1, h2, h3, h4⟩ := hSS W (hCxi.trans (hW.mono (by simp)))
              exact ⟨h3, h4, h2, (hNi.ext hW).cell 0⟩
            try simp only [Act.put, List.setIfInBounds_toArray, List.set_cons_zero, List.set_cons_succ]
            go_cut [107] (fun v wx => v = .bool false ∧ Chg [] wi wx)
            case first =>
              refine wp_region_K (S := fun W => W.cell? ⟨s8, o8 + u * 131 + 130, none⟩ = some (.int .i64 0) ∧ W.rangeAt s8 (o8 + u * 131 + 2) (nums pg).toList ∧ W.cell? ⟨s8, o8 + u * 131 + 1, none⟩ = some (.int .i64 0) ∧ W.cell? ⟨nb, 0, none⟩ = some (.int .i64 (g.next : Nat))) 99 (by kernel_rfl) (hS _ ((Chg.refl [] wi).drew)) (fun hH => ?_)
              refine wpAnyK_take (i := 0) (v := .pointer (some ⟨s8, o8 + u * 131, none⟩)) rfl (by kernel_rfl) (by kernel_rfl) (by kernel_rfl) (by kernel_rfl) (by decide) (fun _ _ _ h => h) (Or.inl ⟨by rfl, fun w' hw' => by go_simp⟩) hH ?_
              try simp only [List.getElem_toArray, List.getElem_cons_succ, List.getElem_cons_zero, Act.put, List.setIfInBounds_toArray, List.set_cons_zero, List.set_cons_succ]
              refine wpAnyK_take (i := 1) (v := .pointer (some ⟨s8, o8 + u * 131, none⟩)) rfl (by kernel_rfl) (by kernel_rfl) (by kernel_rfl) (by kernel_rfl) (by decide) (fun _ _ _ h => h) (Or.inl ⟨by rfl, fun w' hw' => by go_simp⟩) hH ?_
              try simp only [List.getElem_toArray, List.getElem_cons_succ, List.getElem_cons_zero, Act.put, List.setIfInBounds_toArray, List.set_cons_zero, List.set_cons_succ]
              refine wpAnyK_take (i := 2) (v := .pointer (some ⟨s8, o8 + u * 131 + 130, none⟩)) rfl (by kernel_rfl) (by kernel_rfl) (by kernel_rfl) (by kernel_rfl) (by decide) (fun _ _ _ h => h) (Or.inl ⟨by rfl, fun w' hw' => by go_simp⟩) hH ?_
              try simp only [List.getElem_toArray, List.getElem_cons_succ, List.getElem_cons_zero, Act.put, List.setIfInBounds_toArray, List.set_cons_zero, List.set_cons_succ]
              refine wpAnyK_take (i := 3) (v := .int .i64 0) rfl (by kernel_rfl) (by kernel_rfl) (by kernel_rfl) (by kernel_rfl) (by decide) (fun _ _ _ h => h) (yieldsIf_load_cell (by rfl) 173 _ rfl (s8) (o8 + u * 131 + 130) rfl _ (fun w' hw' => hw'.1) (fun w => Tryz.isAgg173 w)) hH ?_
              try simp only [List.getElem_toArray, List.getElem_cons_succ, List.getElem_cons_zero, Act.put, List.setIfInBounds_toArray, List.set_cons_zero, List.set_cons_succ]
              refine wpAnyK_take (i := 4) (v := .bool true) rfl (by kernel_rfl) (by kernel_rfl) (by kernel_rfl) (by kernel_rfl) (by decide) (fun _ _ _ h => h) (Or.inl ⟨by rfl, fun w' hw' => by go_simp⟩) hH ?_
              try simp only [List.getElem_toArray, List.getElem_cons_succ, List.getElem_cons_zero, Act.put, List.setIfInBounds_toArray, List.set_cons_zero, List.set_cons_succ]
              refine wpAnyK_take (i := 5) (v := .bool true) rfl (by kernel_rfl) (by kernel_rfl) (by kernel_rfl) (by kernel_rfl) (by decide) (fun _ _ _ h => h) (Or.inl ⟨by rfl, fun w' hw' => by go_simp⟩) hH ?_
              try simp only [List.getElem_toArray, List.getElem_cons_succ, List.getElem_cons_zero, Act.put, List.setIfInBounds_toArray, List.set_cons_zero, List.set_cons_succ]
              refine wpAnyK_take (i := 6) (v := undef) rfl (by kernel_rfl) (by kernel_rfl) (by kernel_rfl) (by kernel_rfl) (by decide) (fun _ _ _ h => h) (Or.inr ⟨by rfl, rfl⟩) hH ?_
              try simp only [List.getElem_toArray, List.getElem_cons_succ, List.getElem_cons_zero, Act.put, List.setIfInBounds_toArray, List.set_cons_zero, List.set_cons_succ]
              refine wpAnyK_take (i := 7) (v := undef) rfl (by kernel_rfl) (by kernel_rfl) (by kernel_rfl) (by kernel_rfl) (by decide) (fun _ _ _ h => h) (Or.inr ⟨by rfl, rfl⟩) hH ?_
              try simp only [List.getElem_toArray, List.getElem_cons_succ, List.getElem_cons_zero, Act.put, List.setIfInBounds_toArray, List.set_cons_zero, List.set_cons_succ]
              refine wpAnyK_take (i := 8) (v := undef) rfl (by kernel_rfl) (by kernel_rfl) (by kernel_rfl) (by kernel_rfl) (by decide) (fun _ _ _ h => h) (Or.inr ⟨by rfl, rfl⟩) hH ?_
              try simp only [List.getElem_toArray, List.getElem_cons_succ, List.getElem_cons_zero, Act.put, List.setIfInBounds_toArray, List.set_cons_zero, List.set_cons_succ]
              refine wpAnyK_take (i := 9) (v := undef) rfl (by kernel_rfl) (by kernel_rfl) (by kernel_rfl) (by kernel_rfl) (by decide) (fun _ _ _ h => h) (Or.inr ⟨by rfl, rfl⟩) hH ?_
              try simp only [List.getElem_toArray, List.getElem_cons_succ, List.getElem_cons_zero, Act.put, List.setIfInBounds_toArray, List.set_cons_zero, List.set_cons_succ]
              refine wpAnyK_take (i := 10) (v := undef) rfl (by kernel_rfl) (by kernel_rfl) (by kernel_rfl) (by kernel_rfl) (by decide) (fun _ _ _ h => h) (Or.inr ⟨by rfl, rfl⟩) hH ?_
              try simp only [List.getElem_toArray, List.getElem_cons_succ, List.getElem_cons_zero, Act.put, List.setIfInBounds_toArray, List.set_cons_zero, List.set_cons_succ]
              refine wpAnyK_take (i := 11) (v := .bool true) rfl (by kernel_rfl) (by kernel_rfl) (by kernel_rfl) (by kernel_rfl) (by decide) (fun _ _ _ h => h) (Or.inl ⟨by rfl, fun w' hw' => by go_simp⟩) hH ?_
              try simp only [List.getElem_toArray, List.getElem_cons_succ, List.getElem_cons_zero, Act.put, List.setIfInBounds_toArray, List.set_cons_zero, List.set_cons_succ]
              refine wpAnyK_take (i := 12) (v := .bool true) rfl (by kernel_rfl) (by kernel_rfl) (by kernel_rfl) (by kernel_rfl) (by decide) (fun _ _ _ h => h) (Or.inl ⟨by rfl, fun w' hw' => by go_simp⟩) hH ?_
              try simp only [List.getElem_toArray, List.getElem_cons_succ, List.getElem_cons_zero, Act.put, List.setIfInBounds_toArray, List.set_cons_zero, List.set_cons_succ]
              refine wpAnyK_take (i := 13) (v := .pointer (some ⟨s8, o8 + u * 131, none⟩)) rfl (by kernel_rfl) (by kernel_rfl) (by kernel_rfl) (by kernel_rfl) (by decide) (fun _ _ _ h => h) (Or.inl ⟨by rfl, fun w' hw' => by go_simp⟩) hH ?_
              try simp only [List.getElem_toArray, List.getElem_cons_succ, List.getElem_cons_zero, Act.put, List.setIfInBounds_toArray, List.set_cons_zero, List.set_cons_succ]
              refine wpAnyK_take (i := 14) (v := .pointer (some ⟨s8, o8 + u * 131, none⟩)) rfl (by kernel_rfl) (by kernel_rfl) (by kernel_rfl) (by kernel_rfl) (by decide) (fun _ _ _ h => h) (Or.inl ⟨by rfl, fun w' hw' => by go_simp⟩) hH ?_
              try simp only [List.getElem_toArray, List.getElem_cons_succ, List.getElem_cons_zero, Act.put, List.setIfInBounds_toArray, List.set_cons_zero, List.set_cons_succ]
              refine wpAnyK_take (i := 15) (v := .pointer (some ⟨s8, o8 + u * 131 + 2, none⟩)) rfl (by kernel_rfl) (by kernel_rfl) (by kernel_rfl) (by kernel_rfl) (by decide) (fun _ _ _ h => h) (Or.inl ⟨by rfl, fun w' hw' => by go_simp⟩) hH ?_
              try simp only [List.getElem_toArray, List.getElem_cons_succ, List.getElem_cons_zero, Act.put, List.setIfInBounds_toArray, List.set_cons_zero, List.set_cons_succ]
              refine wpAnyK_take (i := 16) rfl (by kernel_rfl) (by kernel_rfl) (by kernel_rfl) (by kernel_rfl) (by decide) (fun _ _ _ h => h) (yieldsIf_load_mid (by rfl) _ _ rfl (s8) (o8 + u * 131 + 2) rfl ((nums pg).toList) _ (fun w' hw' => hw'.2.1) Tryz.underlying72 rfl hi72) hH ?_
              try simp only [List.getElem_toArray, List.getElem_cons_succ, List.getElem_cons_zero, Act.put, List.setIfInBounds_toArray, List.set_cons_zero, List.set_cons_succ]
              rw [Array.toArray_toList]
              refine wpAnyK_take (i := 18) (v := .pointer (some ⟨s8, o8 + u * 131, none⟩)) rfl (by kernel_rfl) (by kernel_rfl) (by kernel_rfl) (by kernel_rfl) (by decide) (fun _ _ _ h => h) (Or.inl ⟨by rfl, fun w' hw' => by go_simp⟩) hH ?_
              try simp only [List.getElem_toArray, List.getElem_cons_succ, List.getElem_cons_zero, Act.put, List.setIfInBounds_toArray, List.set_cons_zero, List.set_cons_succ]
              refine wpAnyK_take (i := 19) (v := .pointer (some ⟨s8, o8 + u * 131, none⟩)) rfl (by kernel_rfl) (by kernel_rfl) (by kernel_rfl) (by kernel_rfl) (by decide) (fun _ _ _ h => h) (Or.inl ⟨by rfl, fun w' hw' => by go_simp⟩) hH ?_
              try simp only [List.getElem_toArray, List.getElem_cons_succ, List.getElem_cons_zero, Act.put, List.setIfInBounds_toArray, List.set_cons_zero, List.set_cons_succ]
              refine wpAnyK_take (i := 20) (v := .pointer (some ⟨s8, o8 + u * 131 + 1, none⟩)) rfl (by kernel_rfl) (by kernel_rfl) (by kernel_rfl) (by kernel_rfl) (by decide) (fun _ _ _ h => h) (Or.inl ⟨by rfl, fun w' hw' => by go_simp⟩) hH ?_
              try simp only [List.getElem_toArray, List.getElem_cons_succ, List.getElem_cons_zero, Act.put, List.setIfInBounds_toArray, List.set_cons_zero, List.set_cons_succ]
              refine wpAnyK_take (i := 21) (v := .int .i64 0) rfl (by kernel_rfl) (by kernel_rfl) (by kernel_rfl) (by kernel_rfl) (by decide) (fun _ _ _ h => h) (yieldsIf_load_cell (by rfl) 3 _ rfl (s8) (o8 + u * 131 + 1) rfl _ (fun w' hw' => hw'.2.2.1) (fun w => Tryz.isAgg3 w)) hH ?_
              try simp only [List.getElem_toArray, List.getElem_cons_succ, List.getElem_cons_zero, Act.put, List.setIfInBounds_toArray, List.set_cons_zero, List.set_cons_succ]
              refine wpAnyK_take (i := 22) (v := .pointer (some ⟨nb, 0, none⟩)) rfl (by kernel_rfl) (by kernel_rfl) (by kernel_rfl) (by kernel_rfl) (by decide) (fun _ _ _ h => h) (Or.inl ⟨by rfl, fun w' hw' => by go_simp⟩) hH ?_
              try simp only [List.getElem_toArray, List.getElem_cons_succ, List.getElem_cons_zero, Act.put, List.setIfInBounds_toArray, List.set_cons_zero, List.set_cons_succ]
              refine wpAnyK_take (i := 23) (v := .int .i64 (g.next : Nat)) rfl (by kernel_rfl) (by kernel_rfl) (by kernel_rfl) (by kernel_rfl) (by decide) (fun _ _ _ h => h) (yieldsIf_load_cell (by rfl) 3 _ rfl (nb) (0) rfl _ (fun w' hw' => hw'.2.2.2) (fun w => Tryz.isAgg3 w)) hH ?_
              try simp only [List.getElem_toArray, List.getElem_cons_succ, List.getElem_cons_zero, Act.put, List.setIfInBounds_toArray, List.set_cons_zero, List.set_cons_succ]
              refine wpAnyK_ready (rs := [17]) (by kernel_rfl) (by simp) ?_
              refine AllReadyK.cons rfl (fun K hK => ?_) AllReadyK.nil
              go_simp
              refine (next_w pg g _ hIs).mono ?_
              rintro e wn ⟨rfl, hCn⟩
              refine hK.out _ _ (hS _ (((Chg.refl [] wi).drew).trans hCn)) (fun hH => ?_)
              clear hK K
              try simp only [List.getElem_toArray, List.getElem_cons_succ, List.getElem_cons_zero, Act.put, List.setIfInBounds_toArray, List.set_cons_zero, List.set_cons_succ]
              refine wpAnyK_take (i := 24) (v := .bool false) rfl (by kernel_rfl) (by kernel_rfl) (by kernel_rfl) (by kernel_rfl) (by decide) (fun _ _ _ h => h) (Or.inl ⟨by rfl, fun w' hw' => by go_simp⟩) hH ?_
              try simp only [List.getElem_toArray, List.getElem_cons_succ, List.getElem_cons_zero, Act.put, List.setIfInBounds_toArray, List.set_cons_zero, List.set_cons_succ]
              refine wpAnyK_take (i := 25) (v := .bool false) rfl (by kernel_rfl) (by kernel_rfl) (by kernel_rfl) (by kernel_rfl) (by decide) (fun _ _ _ h => h) (Or.inl ⟨by rfl, fun w' hw' => by go_simp⟩) hH ?_
              try simp only [List.getElem_toArray, List.getElem_cons_succ, List.getElem_cons_zero, Act.put, List.setIfInBounds_toArray, List.set_cons_zero, List.set_cons_succ]
              refine wpAnyK_done (by kernel_rfl) ?_ _
              go_wp2_with fail
              go_meet
              exact ⟨rfl, ((Chg.refl [] wi).drew).trans hCn⟩
            case rest =>
              obtain ⟨rfl, hCo⟩ := hcut
              obtain ⟨wo, hwo⟩ : ∃ wo, wo = wc := ⟨_, rfl⟩
              rw [← hwo] at hCo ⊢
              clear hwo
              have hCxo := hCxi.trans (hCo.mono (by simp))
              have hNo := hNi.ext hCo
              have hS2 : ∀ W, Chg [] wo W → (W.cell? ⟨s8, o8 + u * 131, none⟩ = some (.int .i64 (n : Nat)) ∧ W.cell? ⟨s8, o8 + u * 131 + 1, none⟩ = some (.int .i64 0)) := fun W hW => by
                obtain ⟨h1, h2, h3, h4⟩ := hSS W (hCxo.trans (hW.mono (by simp)))
                exact ⟨h1, h2⟩
              go_upto_region 23 with fail
              try simp only [Act.put, List.setIfInBounds_toArray, List.set_cons_zero, List.set_cons_succ]
              refine wp_region_K (S := fun W => W.cell? ⟨s8, o8 + u * 131, none⟩ = some (.int .i64 (n : Nat)) ∧ W.cell? ⟨s8, o8 + u * 131 + 1, none⟩ = some (.int .i64 0)) 9 (by kernel_rfl) (hS2 _ ((Chg.refl [] wo).drew)) (fun hH => ?_)
              refine wpAnyK_take (i := 0) (v := .pointer (some ⟨s8, o8 + u * 131, none⟩)) rfl (by kernel_rfl) (by kernel_rfl) (by kernel_rfl) (by kernel_rfl) (by decide) (fun _ _ _ h => h) (Or.inl ⟨by rfl, fun w' hw' => by go_simp⟩) hH ?_
              try simp only [List.getElem_toArray, List.getElem_cons_succ, List.getElem_cons_zero, Act.put, List.setIfInBounds_toArray, List.set_cons_zero, List.set_cons_succ]
              refine wpAnyK_take (i := 1) (v := .pointer (some ⟨s8, o8 + u * 131, none⟩)) rfl (by kernel_rfl) (by kernel_rfl) (by kernel_rfl) (by kernel_rfl) (by decide) (fun _ _ _ h => h) (Or.inl ⟨by rfl, fun w' hw' => by go_simp⟩) hH ?_
              try simp only [List.getElem_toArray, List.getElem_cons_succ, List.getElem_cons_zero, Act.put, List.setIfInBounds_toArray, List.set_cons_zero, List.set_cons_succ]
              refine wpAnyK_take (i := 2) (v := .pointer (some ⟨s8, o8 + u * 131 + 1, none⟩)) rfl (by kernel_rfl) (by kernel_rfl) (by kernel_rfl) (by kernel_rfl) (by decide) (fun _ _ _ h => h) (Or.inl ⟨by rfl, fun w' hw' => by go_simp⟩) hH ?_
              try simp only [List.getElem_toArray, List.getElem_cons_succ, List.getElem_cons_zero, Act.put, List.setIfInBounds_toArray, List.set_cons_zero, List.set_cons_succ]
              refine wpAnyK_take (i := 3) (v := .int .i64 0) rfl (by kernel_rfl) (by kernel_rfl) (by kernel_rfl) (by kernel_rfl) (by decide) (fun _ _ _ h => h) (yieldsIf_load_cell (by rfl) 3 _ rfl (s8) (o8 + u * 131 + 1) rfl _ (fun w' hw' => hw'.2) (fun w => Tryz.isAgg3 w)) hH ?_
              try simp only [List.getElem_toArray, List.getElem_cons_succ, List.getElem_cons_zero, Act.put, List.setIfInBounds_toArray, List.set_cons_zero, List.set_cons_succ]
              refine wpAnyK_take (i := 4) (v := .pointer (some ⟨s8, o8 + u * 131, none⟩)) rfl (by kernel_rfl) (by kernel_rfl) (by kernel_rfl) (by kernel_rfl) (by decide) (fun _ _ _ h => h) (Or.inl ⟨by rfl, fun w' hw' => by go_simp⟩) hH ?_
              try simp only [List.getElem_toArray, List.getElem_cons_succ, List.getElem_cons_zero, Act.put, List.setIfInBounds_toArray, List.set_cons_zero, List.set_cons_succ]
              refine wpAnyK_take (i := 5) (v := .pointer (some ⟨s8, o8 + u * 131, none⟩)) rfl (by kernel_rfl) (by kernel_rfl) (by kernel_rfl) (by kernel_rfl) (by decide) (fun _ _ _ h => h) (Or.inl ⟨by rfl, fun w' hw' => by go_simp⟩) hH ?_
              try simp only [List.getElem_toArray, List.getElem_cons_succ, List.getElem_cons_zero, Act.put, List.setIfInBounds_toArray, List.set_cons_zero, List.set_cons_succ]
              refine wpAnyK_take (i := 6) (v := .pointer (some ⟨s8, o8 + u * 131, none⟩)) rfl (by kernel_rfl) (by kernel_rfl) (by kernel_rfl) (by kernel_rfl) (by decide) (fun _ _ _ h => h) (Or.inl ⟨by rfl, fun w' hw' => by go_simp⟩) hH ?_
              try simp only [List.getElem_toArray, List.getElem_cons_succ, List.getElem_cons_zero, Act.put, List.setIfInBounds_toArray, List.set_cons_zero, List.set_cons_succ]
              refine wpAnyK_take (i := 7) (v := .int .i64 (n : Nat)) rfl (by kernel_rfl) (by kernel_rfl) (by kernel_rfl) (by kernel_rfl) (by decide) (fun _ _ _ h => h) (yieldsIf_load_cell (by rfl) 3 _ rfl (s8) (o8 + u * 131) rfl _ (fun w' hw' => hw'.1) (fun w => Tryz.isAgg3 w)) hH ?_
              try simp only [List.getElem_toArray, List.getElem_cons_succ, List.getElem_cons_zero, Act.put, List.setIfInBounds_toArray, List.set_cons_zero, List.set_cons_succ]
              refine wpAnyK_take (i := 8) (v := .pointer (some ⟨nb, 0, none⟩)) rfl (by kernel_rfl) (by kernel_rfl) (by kernel_rfl) (by kernel_rfl) (by decide) (fun _ _ _ h => h) (Or.inl ⟨by rfl, fun w' hw' => by go_simp⟩) hH ?_
              try simp only [List.getElem_toArray, List.getElem_cons_succ, List.getElem_cons_zero, Act.put, List.setIfInBounds_toArray, List.set_cons_zero, List.set_cons_succ]
              refine wpAnyK_ready (rs := [9]) (by kernel_rfl) (by simp) ?_
              refine AllReadyK.last rfl (fun K hK => ?_)
              rw [if_pos (by rfl)]
              refine op_store_one 3 _ _ rfl nb 0 rfl (.int .i64 (n : Nat)) rfl 218 _ hNo.drew (by simp) (by kernel_rfl) rfl ?_
              intro wk hCk hsk hBk
              refine hK.out _ _ ?_
              clear hK K
              try simp only [List.getElem_toArray, List.getElem_cons_succ, List.getElem_cons_zero, Act.put, List.setIfInBounds_toArray, List.set_cons_zero, List.set_cons_succ]
              refine wpAnyK_done (by kernel_rfl) ?_ _
              have hCk2 : Chg [nb] wo wk := ((Chg.refl [nb] wo).drew).trans hCk
              have hBk2 : Blk wk nb 218 #[.int .i64 (n : Nat), .int .i64 a1, .int .i64 0, .int .i64 0, .int .i64 0, .int .i64 0] := by simpa using hBk
              go_wp2
              go_roundw
              case rel =>
                have e9 : wrap64 ((u : Int) - 1) = (u : Int) - 1 := by unfold wrap64; omega
                exact ⟨u, (n : Nat), a1, by omega, by first | rfl | rw [e9], hBk2, hCxo.trans hCk2, hnx⟩
              case measure =>
                have e9 : wrap64 ((u : Int) - 1) = (u : Int) - 1 := by unfold wrap64; omega
                try rw [e9]
                simp [intOf]
          · have hmt' := hmt 1 hg
            obtain ⟨ml, hml⟩ : ∃ ml, ml = (metV n 1 pg 0).toList := ⟨_, rfl⟩
            have hir := fun w => inrow_w n 1 pg w hlg
            have hml2 : ml.toArray = metV n 1 pg 0 := by rw [hml, Array.toArray_toList]
            rw [← hml2] at hir
            have Hir := Lib.hid hir
            have hi175 : (Tryz.prog.info? 175).map (·.size) = some ml.length := by rw [hml, Array.length_toList, metV_size _ _ _ _ hlg]; kernel_rfl
            have hi72 : (Tryz.prog.info? 72).map (·.size) = some (nums pg).toList.length := by rw [Array.length_toList, nums_size, hlg]; kernel_rfl
            have hr : wr.rangeAt s8 (o8 + u * 131) ml := fun j v hv => by
              have hj : j < 131 := by have := (List.getElem?_eq_some_iff.1 hv).1; rw [hml, Array.length_toList, metV_size _ _ _ _ hlg] at this; exact this
              rw [hmt' _ hCx j hj, ← Array.getElem?_toList, ← hml]; exact hv
            have m130 := metV_flaw n 1 pg 0 hlg
            have mw := metV_word n 1 pg 0 hlg
            have hSS : ∀ W, Chg [nb] w9 W → W.cell? ⟨s8, o8 + u * 131, none⟩ = some (.int .i64 (n : Nat)) ∧ W.cell? ⟨s8, o8 + u * 131 + 1, none⟩ = some (.int .i64 1) ∧ W.cell? ⟨s8, o8 + u * 131 + 130, none⟩ = some (.int .i64 0) ∧ W.rangeAt s8 (o8 + u * 131 + 2) (nums pg).toList := fun W hW =>
              ⟨(hmt' W hW 0 (by omega)).trans rfl, (hmt' W hW 1 (by omega)).trans rfl, (hmt' W hW 130 (by omega)).trans m130, fun j v hv => by
                have hj : j < 128 := by have := (List.getElem?_eq_some_iff.1 hv).1; rw [Array.length_toList, nums_size, hlg] at this; exact this
                rw [Nat.add_assoc, hmt' W hW (2 + j) (by omega), mw j hj]; exact hv⟩
            clear hml hml2 hir m130 mw hmt' hmt hg
            go_upto_region 21 with (first
              | (refine wpList_load_rng (by rfl) 175 (.tmp 78) rfl s8 (o8 + u * 131) rfl ml _ hr Tryz.underlying175 rfl hi175 ?_)
              | (go_at_call 131; refine (Hir.out _).mono ?_; rintro e wi ⟨rfl, hCi⟩))
            have hCxi := hCx.trans (hCi.mono (by simp))
            have hNi := hNb.ext hCi
            have hS : ∀ W, Chg [] wi W → (W.cell? ⟨s8, o8 + u * 131 + 130, none⟩ = some (.int .i64 0) ∧ W.rangeAt s8 (o8 + u * 131 + 2) (nums pg).toList ∧ W.cell? ⟨s8, o8 + u * 131 + 1, none⟩ = some (.int .i64 1) ∧ W.cell? ⟨nb, 1, none⟩ = some (.int .i64 (g.next : Nat))) := fun W hW => by
              obtain ⟨h1, h2, h3, h4⟩ := hSS W (hCxi.trans (hW.mono (by simp)))
              exact ⟨h3, h4, h2, (hNi.ext hW).cell 1⟩
            try simp only [Act.put, List.setIfInBounds_toArray, List.set_cons_zero, List.set_cons_succ]
            go_cut [107] (fun v wx => v = .bool false ∧ Chg [] wi wx)
            case first =>
              refine wp_region_K (S := fun W => W.cell? ⟨s8, o8 + u * 131 + 130, none⟩ = some (.int .i64 0) ∧ W.rangeAt s8 (o8 + u * 131 + 2) (nums pg).toList ∧ W.cell? ⟨s8, o8 + u * 131 + 1, none⟩ = some (.int .i64 1) ∧ W.cell? ⟨nb, 1, none⟩ = some (.int .i64 (g.next : Nat))) 99 (by kernel_rfl) (hS _ ((Chg.refl [] wi).drew)) (fun hH => ?_)
              refine wpAnyK_take (i := 0) (v := .pointer (some ⟨s8, o8 + u * 131, none⟩)) rfl (by kernel_rfl) (by kernel_rfl) (by kernel_rfl) (by kernel_rfl) (by decide) (fun _ _ _ h => h) (Or.inl ⟨by rfl, fun w' hw' => by go_simp⟩) hH ?_
              try simp only [List.getElem_toArray, List.getElem_cons_succ, List.getElem_cons_zero, Act.put, List.setIfInBounds_toArray, List.set_cons_zero, List.set_cons_succ]
              refine wpAnyK_take (i := 1) (v := .pointer (some ⟨s8, o8 + u * 131, none⟩)) rfl (by kernel_rfl) (by kernel_rfl) (by kernel_rfl) (by kernel_rfl) (by decide) (fun _ _ _ h => h) (Or.inl ⟨by rfl, fun w' hw' => by go_simp⟩) hH ?_
              try simp only [List.getElem_toArray, List.getElem_cons_succ, List.getElem_cons_zero, Act.put, List.setIfInBounds_toArray, List.set_cons_zero, List.set_cons_succ]
              refine wpAnyK_take (i := 2) (v := .pointer (some ⟨s8, o8 + u * 131 + 130, none⟩)) rfl (by kernel_rfl) (by kernel_rfl) (by kernel_rfl) (by kernel_rfl) (by decide) (fun _ _ _ h => h) (Or.inl ⟨by rfl, fun w' hw' => by go_simp⟩) hH ?_
              try simp only [List.getElem_toArray, List.getElem_cons_succ, List.getElem_cons_zero, Act.put, List.setIfInBounds_toArray, List.set_cons_zero, List.set_cons_succ]
              refine wpAnyK_take (i := 3) (v := .int .i64 0) rfl (by kernel_rfl) (by kernel_rfl) (by kernel_rfl) (by kernel_rfl) (by decide) (fun _ _ _ h => h) (yieldsIf_load_cell (by rfl) 173 _ rfl (s8) (o8 + u * 131 + 130) rfl _ (fun w' hw' => hw'.1) (fun w => Tryz.isAgg173 w)) hH ?_
              try simp only [List.getElem_toArray, List.getElem_cons_succ, List.getElem_cons_zero, Act.put, List.setIfInBounds_toArray, List.set_cons_zero, List.set_cons_succ]
              refine wpAnyK_take (i := 4) (v := .bool true) rfl (by kernel_rfl) (by kernel_rfl) (by kernel_rfl) (by kernel_rfl) (by decide) (fun _ _ _ h => h) (Or.inl ⟨by rfl, fun w' hw' => by go_simp⟩) hH ?_
              try simp only [List.getElem_toArray, List.getElem_cons_succ, List.getElem_cons_zero, Act.put, List.setIfInBounds_toArray, List.set_cons_zero, List.set_cons_succ]
              refine wpAnyK_take (i := 5) (v := .bool true) rfl (by kernel_rfl) (by kernel_rfl) (by kernel_rfl) (by kernel_rfl) (by decide) (fun _ _ _ h => h) (Or.inl ⟨by rfl, fun w' hw' => by go_simp⟩) hH ?_
              try simp only [List.getElem_toArray, List.getElem_cons_succ, List.getElem_cons_zero, Act.put, List.setIfInBounds_toArray, List.set_cons_zero, List.set_cons_succ]
              refine wpAnyK_take (i := 6) (v := undef) rfl (by kernel_rfl) (by kernel_rfl) (by kernel_rfl) (by kernel_rfl) (by decide) (fun _ _ _ h => h) (Or.inr ⟨by rfl, rfl⟩) hH ?_
              try simp only [List.getElem_toArray, List.getElem_cons_succ, List.getElem_cons_zero, Act.put, List.setIfInBounds_toArray, List.set_cons_zero, List.set_cons_succ]
              refine wpAnyK_take (i := 7) (v := undef) rfl (by kernel_rfl) (by kernel_rfl) (by kernel_rfl) (by kernel_rfl) (by decide) (fun _ _ _ h => h) (Or.inr ⟨by rfl, rfl⟩) hH ?_
              try simp only [List.getElem_toArray, List.getElem_cons_succ, List.getElem_cons_zero, Act.put, List.setIfInBounds_toArray, List.set_cons_zero, List.set_cons_succ]
              refine wpAnyK_take (i := 8) (v := undef) rfl (by kernel_rfl) (by kernel_rfl) (by kernel_rfl) (by kernel_rfl) (by decide) (fun _ _ _ h => h) (Or.inr ⟨by rfl, rfl⟩) hH ?_
              try simp only [List.getElem_toArray, List.getElem_cons_succ, List.getElem_cons_zero, Act.put, List.setIfInBounds_toArray, List.set_cons_zero, List.set_cons_succ]
              refine wpAnyK_take (i := 9) (v := undef) rfl (by kernel_rfl) (by kernel_rfl) (by kernel_rfl) (by kernel_rfl) (by decide) (fun _ _ _ h => h) (Or.inr ⟨by rfl, rfl⟩) hH ?_
              try simp only [List.getElem_toArray, List.getElem_cons_succ, List.getElem_cons_zero, Act.put, List.setIfInBounds_toArray, List.set_cons_zero, List.set_cons_succ]
              refine wpAnyK_take (i := 10) (v := undef) rfl (by kernel_rfl) (by kernel_rfl) (by kernel_rfl) (by kernel_rfl) (by decide) (fun _ _ _ h => h) (Or.inr ⟨by rfl, rfl⟩) hH ?_
              try simp only [List.getElem_toArray, List.getElem_cons_succ, List.getElem_cons_zero, Act.put, List.setIfInBounds_toArray, List.set_cons_zero, List.set_cons_succ]
              refine wpAnyK_take (i := 11) (v := .bool true) rfl (by kernel_rfl) (by kernel_rfl) (by kernel_rfl) (by kernel_rfl) (by decide) (fun _ _ _ h => h) (Or.inl ⟨by rfl, fun w' hw' => by go_simp⟩) hH ?_
              try simp only [List.getElem_toArray, List.getElem_cons_succ, List.getElem_cons_zero, Act.put, List.setIfInBounds_toArray, List.set_cons_zero, List.set_cons_succ]
              refine wpAnyK_take (i := 12) (v := .bool true) rfl (by kernel_rfl) (by kernel_rfl) (by kernel_rfl) (by kernel_rfl) (by decide) (fun _ _ _ h => h) (Or.inl ⟨by rfl, fun w' hw' => by go_simp⟩) hH ?_
              try simp only [List.getElem_toArray, List.getElem_cons_succ, List.getElem_cons_zero, Act.put, List.setIfInBounds_toArray, List.set_cons_zero, List.set_cons_succ]
              refine wpAnyK_take (i := 13) (v := .pointer (some ⟨s8, o8 + u * 131, none⟩)) rfl (by kernel_rfl) (by kernel_rfl) (by kernel_rfl) (by kernel_rfl) (by decide) (fun _ _ _ h => h) (Or.inl ⟨by rfl, fun w' hw' => by go_simp⟩) hH ?_
              try simp only [List.getElem_toArray, List.getElem_cons_succ, List.getElem_cons_zero, Act.put, List.setIfInBounds_toArray, List.set_cons_zero, List.set_cons_succ]
              refine wpAnyK_take (i := 14) (v := .pointer (some ⟨s8, o8 + u * 131, none⟩)) rfl (by kernel_rfl) (by kernel_rfl) (by kernel_rfl) (by kernel_rfl) (by decide) (fun _ _ _ h => h) (Or.inl ⟨by rfl, fun w' hw' => by go_simp⟩) hH ?_
              try simp only [List.getElem_toArray, List.getElem_cons_succ, List.getElem_cons_zero, Act.put, List.setIfInBounds_toArray, List.set_cons_zero, List.set_cons_succ]
              refine wpAnyK_take (i := 15) (v := .pointer (some ⟨s8, o8 + u * 131 + 2, none⟩)) rfl (by kernel_rfl) (by kernel_rfl) (by kernel_rfl) (by kernel_rfl) (by decide) (fun _ _ _ h => h) (Or.inl ⟨by rfl, fun w' hw' => by go_simp⟩) hH ?_
              try simp only [List.getElem_toArray, List.getElem_cons_succ, List.getElem_cons_zero, Act.put, List.setIfInBounds_toArray, List.set_cons_zero, List.set_cons_succ]
              refine wpAnyK_take (i := 16) rfl (by kernel_rfl) (by kernel_rfl) (by kernel_rfl) (by kernel_rfl) (by decide) (fun _ _ _ h => h) (yieldsIf_load_mid (by rfl) _ _ rfl (s8) (o8 + u * 131 + 2) rfl ((nums pg).toList) _ (fun w' hw' => hw'.2.1) Tryz.underlying72 rfl hi72) hH ?_
              try simp only [List.getElem_toArray, List.getElem_cons_succ, List.getElem_cons_zero, Act.put, List.setIfInBounds_toArray, List.set_cons_zero, List.set_cons_succ]
              rw [Array.toArray_toList]
              refine wpAnyK_take (i := 18) (v := .pointer (some ⟨s8, o8 + u * 131, none⟩)) rfl (by kernel_rfl) (by kernel_rfl) (by kernel_rfl) (by kernel_rfl) (by decide) (fun _ _ _ h => h) (Or.inl ⟨by rfl, fun w' hw' => by go_simp⟩) hH ?_
              try simp only [List.getElem_toArray, List.getElem_cons_succ, List.getElem_cons_zero, Act.put, List.setIfInBounds_toArray, List.set_cons_zero, List.set_cons_succ]
              refine wpAnyK_take (i := 19) (v := .pointer (some ⟨s8, o8 + u * 131, none⟩)) rfl (by kernel_rfl) (by kernel_rfl) (by kernel_rfl) (by kernel_rfl) (by decide) (fun _ _ _ h => h) (Or.inl ⟨by rfl, fun w' hw' => by go_simp⟩) hH ?_
              try simp only [List.getElem_toArray, List.getElem_cons_succ, List.getElem_cons_zero, Act.put, List.setIfInBounds_toArray, List.set_cons_zero, List.set_cons_succ]
              refine wpAnyK_take (i := 20) (v := .pointer (some ⟨s8, o8 + u * 131 + 1, none⟩)) rfl (by kernel_rfl) (by kernel_rfl) (by kernel_rfl) (by kernel_rfl) (by decide) (fun _ _ _ h => h) (Or.inl ⟨by rfl, fun w' hw' => by go_simp⟩) hH ?_
              try simp only [List.getElem_toArray, List.getElem_cons_succ, List.getElem_cons_zero, Act.put, List.setIfInBounds_toArray, List.set_cons_zero, List.set_cons_succ]
              refine wpAnyK_take (i := 21) (v := .int .i64 1) rfl (by kernel_rfl) (by kernel_rfl) (by kernel_rfl) (by kernel_rfl) (by decide) (fun _ _ _ h => h) (yieldsIf_load_cell (by rfl) 3 _ rfl (s8) (o8 + u * 131 + 1) rfl _ (fun w' hw' => hw'.2.2.1) (fun w => Tryz.isAgg3 w)) hH ?_
              try simp only [List.getElem_toArray, List.getElem_cons_succ, List.getElem_cons_zero, Act.put, List.setIfInBounds_toArray, List.set_cons_zero, List.set_cons_succ]
              refine wpAnyK_take (i := 22) (v := .pointer (some ⟨nb, 1, none⟩)) rfl (by kernel_rfl) (by kernel_rfl) (by kernel_rfl) (by kernel_rfl) (by decide) (fun _ _ _ h => h) (Or.inl ⟨by rfl, fun w' hw' => by go_simp⟩) hH ?_
              try simp only [List.getElem_toArray, List.getElem_cons_succ, List.getElem_cons_zero, Act.put, List.setIfInBounds_toArray, List.set_cons_zero, List.set_cons_succ]
              refine wpAnyK_take (i := 23) (v := .int .i64 (g.next : Nat)) rfl (by kernel_rfl) (by kernel_rfl) (by kernel_rfl) (by kernel_rfl) (by decide) (fun _ _ _ h => h) (yieldsIf_load_cell (by rfl) 3 _ rfl (nb) (1) rfl _ (fun w' hw' => hw'.2.2.2) (fun w => Tryz.isAgg3 w)) hH ?_
              try simp only [List.getElem_toArray, List.getElem_cons_succ, List.getElem_cons_zero, Act.put, List.setIfInBounds_toArray, List.set_cons_zero, List.set_cons_succ]
              refine wpAnyK_ready (rs := [17]) (by kernel_rfl) (by simp) ?_
              refine AllReadyK.cons rfl (fun K hK => ?_) AllReadyK.nil
              go_simp
              refine (next_w pg g _ hIs).mono ?_
              rintro e wn ⟨rfl, hCn⟩
              refine hK.out _ _ (hS _ (((Chg.refl [] wi).drew).trans hCn)) (fun hH => ?_)
              clear hK K
              try simp only [List.getElem_toArray, List.getElem_cons_succ, List.getElem_cons_zero, Act.put, List.setIfInBounds_toArray, List.set_cons_zero, List.set_cons_succ]
              refine wpAnyK_take (i := 24) (v := .bool false) rfl (by kernel_rfl) (by kernel_rfl) (by kernel_rfl) (by kernel_rfl) (by decide) (fun _ _ _ h => h) (Or.inl ⟨by rfl, fun w' hw' => by go_simp⟩) hH ?_
              try simp only [List.getElem_toArray, List.getElem_cons_succ, List.getElem_cons_zero, Act.put, List.setIfInBounds_toArray, List.set_cons_zero, List.set_cons_succ]
              refine wpAnyK_take (i := 25) (v := .bool false) rfl (by kernel_rfl) (by kernel_rfl) (by kernel_rfl) (by kernel_rfl) (by decide) (fun _ _ _ h => h) (Or.inl ⟨by rfl, fun w' hw' => by go_simp⟩) hH ?_
              try simp only [List.getElem_toArray, List.getElem_cons_succ, List.getElem_cons_zero, Act.put, List.setIfInBounds_toArray, List.set_cons_zero, List.set_cons_succ]
              refine wpAnyK_done (by kernel_rfl) ?_ _
              go_wp2_with fail
              go_meet
              exact ⟨rfl, ((Chg.refl [] wi).drew).trans hCn⟩
            case rest =>
              obtain ⟨rfl, hCo⟩ := hcut
              obtain ⟨wo, hwo⟩ : ∃ wo, wo = wc := ⟨_, rfl⟩
              rw [← hwo] at hCo ⊢
              clear hwo
              have hCxo := hCxi.trans (hCo.mono (by simp))
              have hNo := hNi.ext hCo
              have hS2 : ∀ W, Chg [] wo W → (W.cell? ⟨s8, o8 + u * 131, none⟩ = some (.int .i64 (n : Nat)) ∧ W.cell? ⟨s8, o8 + u * 131 + 1, none⟩ = some (.int .i64 1)) := fun W hW => by
                obtain ⟨h1, h2, h3, h4⟩ := hSS W (hCxo.trans (hW.mono (by simp)))
                exact ⟨h1, h2⟩
              go_upto_region 23 with fail
              try simp only [Act.put, List.setIfInBounds_toArray, List.set_cons_zero, List.set_cons_succ]
              refine wp_region_K (S := fun W => W.cell? ⟨s8, o8 + u * 131, none⟩ = some (.int .i64 (n : Nat)) ∧ W.cell? ⟨s8, o8 + u * 131 + 1, none⟩ = some (.int .i64 1)) 9 (by kernel_rfl) (hS2 _ ((Chg.refl [] wo).drew)) (fun hH => ?_)
              refine wpAnyK_take (i := 0) (v := .pointer (some ⟨s8, o8 + u * 131, none⟩)) rfl (by kernel_rfl) (by kernel_rfl) (by kernel_rfl) (by kernel_rfl) (by decide) (fun _ _ _ h => h) (Or.inl ⟨by rfl, fun w' hw' => by go_simp⟩) hH ?_
              try simp only [List.getElem_toArray, List.getElem_cons_succ, List.getElem_cons_zero, Act.put, List.setIfInBounds_toArray, List.set_cons_zero, List.set_cons_succ]
              refine wpAnyK_take (i := 1) (v := .pointer (some ⟨s8, o8 + u * 131, none⟩)) rfl (by kernel_rfl) (by kernel_rfl) (by kernel_rfl) (by kernel_rfl) (by decide) (fun _ _ _ h => h) (Or.inl ⟨by rfl, fun w' hw' => by go_simp⟩) hH ?_
              try simp only [List.getElem_toArray, List.getElem_cons_succ, List.getElem_cons_zero, Act.put, List.setIfInBounds_toArray, List.set_cons_zero, List.set_cons_succ]
              refine wpAnyK_take (i := 2) (v := .pointer (some ⟨s8, o8 + u * 131 + 1, none⟩)) rfl (by kernel_rfl) (by kernel_rfl) (by kernel_rfl) (by kernel_rfl) (by decide) (fun _ _ _ h => h) (Or.inl ⟨by rfl, fun w' hw' => by go_simp⟩) hH ?_
              try simp only [List.getElem_toArray, List.getElem_cons_succ, List.getElem_cons_zero, Act.put, List.setIfInBounds_toArray, List.set_cons_zero, List.set_cons_succ]
              refine wpAnyK_take (i := 3) (v := .int .i64 1) rfl (by kernel_rfl) (by kernel_rfl) (by kernel_rfl) (by kernel_rfl) (by decide) (fun _ _ _ h => h) (yieldsIf_load_cell (by rfl) 3 _ rfl (s8) (o8 + u * 131 + 1) rfl _ (fun w' hw' => hw'.2) (fun w => Tryz.isAgg3 w)) hH ?_
              try simp only [List.getElem_toArray, List.getElem_cons_succ, List.getElem_cons_zero, Act.put, List.setIfInBounds_toArray, List.set_cons_zero, List.set_cons_succ]
              refine wpAnyK_take (i := 4) (v := .pointer (some ⟨s8, o8 + u * 131, none⟩)) rfl (by kernel_rfl) (by kernel_rfl) (by kernel_rfl) (by kernel_rfl) (by decide) (fun _ _ _ h => h) (Or.inl ⟨by rfl, fun w' hw' => by go_simp⟩) hH ?_
              try simp only [List.getElem_toArray, List.getElem_cons_succ, List.getElem_cons_zero, Act.put, List.setIfInBounds_toArray, List.set_cons_zero, List.set_cons_succ]
              refine wpAnyK_take (i := 5) (v := .pointer (some ⟨s8, o8 + u * 131, none⟩)) rfl (by kernel_rfl) (by kernel_rfl) (by kernel_rfl) (by kernel_rfl) (by decide) (fun _ _ _ h => h) (Or.inl ⟨by rfl, fun w' hw' => by go_simp⟩) hH ?_
              try simp only [List.getElem_toArray, List.getElem_cons_succ, List.getElem_cons_zero, Act.put, List.setIfInBounds_toArray, List.set_cons_zero, List.set_cons_succ]
              refine wpAnyK_take (i := 6) (v := .pointer (some ⟨s8, o8 + u * 131, none⟩)) rfl (by kernel_rfl) (by kernel_rfl) (by kernel_rfl) (by kernel_rfl) (by decide) (fun _ _ _ h => h) (Or.inl ⟨by rfl, fun w' hw' => by go_simp⟩) hH ?_
              try simp only [List.getElem_toArray, List.getElem_cons_succ, List.getElem_cons_zero, Act.put, List.setIfInBounds_toArray, List.set_cons_zero, List.set_cons_succ]
              refine wpAnyK_take (i := 7) (v := .int .i64 (n : Nat)) rfl (by kernel_rfl) (by kernel_rfl) (by kernel_rfl) (by kernel_rfl) (by decide) (fun _ _ _ h => h) (yieldsIf_load_cell (by rfl) 3 _ rfl (s8) (o8 + u * 131) rfl _ (fun w' hw' => hw'.1) (fun w => Tryz.isAgg3 w)) hH ?_
              try simp only [List.getElem_toArray, List.getElem_cons_succ, List.getElem_cons_zero, Act.put, List.setIfInBounds_toArray, List.set_cons_zero, List.set_cons_succ]
              refine wpAnyK_take (i := 8) (v := .pointer (some ⟨nb, 1, none⟩)) rfl (by kernel_rfl) (by kernel_rfl) (by kernel_rfl) (by kernel_rfl) (by decide) (fun _ _ _ h => h) (Or.inl ⟨by rfl, fun w' hw' => by go_simp⟩) hH ?_
              try simp only [List.getElem_toArray, List.getElem_cons_succ, List.getElem_cons_zero, Act.put, List.setIfInBounds_toArray, List.set_cons_zero, List.set_cons_succ]
              refine wpAnyK_ready (rs := [9]) (by kernel_rfl) (by simp) ?_
              refine AllReadyK.last rfl (fun K hK => ?_)
              rw [if_pos (by rfl)]
              refine op_store_one 3 _ _ rfl nb 1 rfl (.int .i64 (n : Nat)) rfl 218 _ hNo.drew (by simp) (by kernel_rfl) rfl ?_
              intro wk hCk hsk hBk
              refine hK.out _ _ ?_
              clear hK K
              try simp only [List.getElem_toArray, List.getElem_cons_succ, List.getElem_cons_zero, Act.put, List.setIfInBounds_toArray, List.set_cons_zero, List.set_cons_succ]
              refine wpAnyK_done (by kernel_rfl) ?_ _
              have hCk2 : Chg [nb] wo wk := ((Chg.refl [nb] wo).drew).trans hCk
              have hBk2 : Blk wk nb 218 #[.int .i64 a0, .int .i64 (n : Nat), .int .i64 0, .int .i64 0, .int .i64 0, .int .i64 0] := by simpa using hBk
              go_wp2
              go_roundw
              case rel =>
                have e9 : wrap64 ((u : Int) - 1) = (u : Int) - 1 := by unfold wrap64; omega
                exact ⟨u, a0, (n : Nat), by omega, by first | rfl | rw [e9], hBk2, hCxo.trans hCk2, fun h => absurd h hnx⟩
              case measure =>
                have e9 : wrap64 ((u : Int) - 1) = (u : Int) - 1 := by unfold wrap64; omega
                try rw [e9]
                simp [intOf]


end Go.Proofs.YtpcaadipejnllaaGreatDoor

/- The checker: no faults. -/
set_option linter.unusedVariables false
set_option linter.unusedSimpArgs false
namespace Go.Proofs.YtpcaadipejnllaaGreatDoor
open Go.RowKit

set_option maxRecDepth 100000 in
set_option maxHeartbeats 4000000 in
theorem faults_w (ba bm bw fr rt : Nat) (pgs : Nat → List Nat) (ls : List Lf) (fl : List Nat) (w : World) (hA : ArS w ba bm bw fr rt pgs) (hP : TreeP fr rt pgs ls fl) :
    Calls Tryz.prog 55 #[.pointer (some ⟨ba, 0, none⟩)] w fun e w' => e = .returned (.tuple #[.slice none 0 0, .int .i64 0]) ∧ Chg [] w w' := by
  go_enter Tryz.func55, Tryz.ntmps55
  go_wp2_with (first
    | (go_at_call 97; refine (check_w ba bm bw fr rt pgs ls fl _ hA hP).mono ?_; rintro e w1 ⟨cb, mb, v, f, L, N, rfl, hB, hM, hf, hO, hlen, hll, hC1⟩; obtain ⟨A0, c0, rfl, _, _⟩ := (Sl.own hO).form; have b2 : w1.cell? ⟨cb, 2, none⟩ = some (.slice A0 L.length c0) := hB.cell 2))
  clear b2
  go_loopw [6, 24] (fun l6 i wr => ∃ k, l6 = .slice none 0 0 ∧ k ≤ L.length ∧ i = .int .i64 (k : Nat) ∧ Chg [] w1 wr) (fun _ i _ => L.length - (intOf i).toNat)
  case atStart => exact ⟨0, rfl, by omega, rfl, Chg.refl _ _⟩
  case round =>
    obtain ⟨k, rfl, hk, rfl, hC⟩ := hrel
    by_cases hk2 : k < L.length
    · obtain ⟨s, o, c, e9, hs, hx⟩ := own_at hO (by omega)
      injection e9 with e8 _ e7
      subst e8
      clear e7
      obtain ⟨m, hm⟩ : ∃ m, L[k]? = some m := ⟨_, List.getElem?_eq_getElem hk2⟩
      have hlm := hlen m (List.mem_of_getElem? hm)
      obtain ⟨ml, hml⟩ : ∃ ml, ml = (metV m.n m.lvl m.pg 0).toList := ⟨_, rfl⟩
      have hsz : ml.length = 131 := by rw [hml, Array.length_toList, metV_size _ _ _ _ hlm]
      have hr : wr.rangeAt s (o + k * 131) ml := fun j v hv => by
        have hj : j < 131 := by have := (List.getElem?_eq_some_iff.1 hv).1; omega
        rw [hC.cell hs (by simp), Nat.add_assoc, hx _ (by omega), metL_get hlen k m hm j hj, ← Array.getElem?_toList, ← hml]; exact hv
      have hi175 : (Tryz.prog.info? 175).map (·.size) = some ml.length := by rw [hsz]; kernel_rfl
      have hall : ml.toArray.all (·.oneCell') = true := by rw [hml, Array.toArray_toList]; exact metV_one _ _ _ _
      have hfw : ml.toArray[130]? = some (.int .i64 0) := by rw [hml, Array.toArray_toList]; exact metV_flaw _ _ _ _ hlm
      have hss : ml.toArray.size = 131 := by rw [List.size_toArray]; exact hsz
      clear hml hx hm
      go_wp2_with (first
        | (refine wpList_load_rng (by rfl) 175 (.tmp 26) rfl s (o + k * 131) rfl ml _ hr Tryz.underlying175 rfl hi175 ?_)
        | (refine wpList_store_blk rfl 175 (.tmp 8) (.tmp 27) rfl wr.heap.size rfl ml.toArray rfl 175 _ (Blk.new wr 175 _) (hss ▸ (by kernel_rfl)) (by rw [hss]; rfl) hall ?_; intro w2 hC2 hs2 hB2; have hC12 : Chg [] wr w2 := ((Chg.refl [] wr).alloc _).on hC2 (fun i hi => .inr (by simp at hi; omega)); have k130 := hB2.cell 130; rw [hfw] at k130; clear hs2))
      go_roundw
      case rel => exact ⟨k + 1, rfl, by omega, by go_num, hC.trans hC12⟩
      case measure => simp [intOf]; omega
    · obtain rfl : k = L.length := by omega
      have hA2 := hA.ext (hC1.trans hC)
      obtain ⟨us, hus⟩ : ∃ us, us = usedUp pgs 40 := ⟨_, rfl⟩
      have hul := fun w hA => used_list_s ba bm bw fr rt pgs w hA
      have hus1 : ∀ z ∈ us, (Lit.int .i64 z).wf = true := fun z hz => by
        obtain ⟨p, rfl, h0, h1, _⟩ := usedUp_mem (hus ▸ hz)
        exact WalkArith.wf_i64 (by omega)
      have hus2 : us.length ≤ 40 := by
        rw [hus]; unfold usedUp
        rw [List.length_map]
        exact Nat.le_trans (List.length_filter_le _ _) (by simp)
      obtain ⟨r1, r2, r3⟩ := hP.rtr
      have hup : 0 < us.length := by rw [hus]; exact List.length_pos_of_mem (mem_usedUp r1 r2 r3)
      rw [← hus] at hul hf
      have Hul := Lib.hid hul
      have Hf := Lib.hid hf
      clear hul hus hf
      go_wp2_with (first
        | (go_at_call 98; go_loud (refine (Hul.out _ hA2).mono ?_); rintro e w2 ⟨uv, rfl, hO2, hC2⟩; obtain ⟨su, ou, uc, rfl, hsu, hux⟩ := own_at hO2 hup))
      have hB2 := (hB.ext hC).ext hC2
      have hM2 := (hM.ext hC).ext hC2
      clear hB hM
      go_loopw [6, 43] (fun l6 i wx => ∃ k, l6 = .slice none 0 0 ∧ k ≤ us.length ∧ i = .int .i64 (k : Nat) ∧ wx = w2) (fun _ i _ => us.length - (intOf i).toNat)
      case atStart => exact ⟨0, rfl, by omega, rfl, rfl⟩
      case round =>
        obtain ⟨k, rfl, hk, rfl, hww⟩ := hrel
        subst hww
        have b1 : wr.cell? ⟨cb, 1, none⟩ = some (.map (some mb)) := hB2.cell 1
        by_cases hk2 : k < us.length
        · obtain ⟨z, hz⟩ : ∃ z, us[k]? = some z := ⟨_, List.getElem?_eq_getElem hk2⟩
          have hcz : wr.cell? ⟨su, ou + k, none⟩ = some (.int .i64 z) := by
            rw [hux k (by omega)]
            simp [ints, hz]
          have hzm := List.mem_of_getElem? hz
          have hzw := hus1 z hzm
          have hfz := Hf.out z hzm
          clear hz hux
          go_wp2_with (first
            | (refine wpList_lookup_b (by rfl) (.tmp 50) (.tmp 51) false rfl mb N f rfl hM2 z rfl hzw (.bool true) (by rw [hfz]; rfl) ?_))
          go_roundw
          case rel => exact ⟨k + 1, rfl, by omega, by go_num, trivial⟩
          case measure => simp [intOf]; omega
        · go_wp2
          go_ret2
          exact ⟨rfl, (hC1.trans hC).trans hC2⟩

set_option maxRecDepth 100000 in
set_option maxHeartbeats 4000000 in
theorem good_w (ba bm bw fr rt : Nat) (pgs : Nat → List Nat) (ls : List Lf) (fl : List Nat) (w : World) (hA : ArS w ba bm bw fr rt pgs) (hP : TreeP fr rt pgs ls fl) :
    Calls Tryz.prog 20 #[.pointer (some ⟨ba, 0, none⟩)] w fun e w' => e = .returned (.bool true) ∧ Chg [] w w' := by
  go_enter Tryz.func20, Tryz.ntmps20
  go_wp2_with (first
    | (go_at_call 55; refine (faults_w ba bm bw fr rt pgs ls fl _ hA hP).mono ?_; rintro e w1 ⟨rfl, hC1⟩))
  go_ret
  exact ⟨rfl, hC1⟩

end Go.Proofs.YtpcaadipejnllaaGreatDoor
