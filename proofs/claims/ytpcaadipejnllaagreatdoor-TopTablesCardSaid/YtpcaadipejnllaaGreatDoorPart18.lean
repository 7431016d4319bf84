/- A base in memory; its rows by their keys. -/
import Derived.Test.YtpcaadipejnllaaGreatDoorPart17
import Derived.Test.YtpcaadipejnllaaGreatDoorPart16

set_option linter.unusedVariables false
set_option linter.unusedSimpArgs false
namespace Go.Proofs.YtpcaadipejnllaaGreatDoor
open Go.RowKit

def baseC (t : Tb) (vk vr vx : Value) (mb : Nat) : Array Value := #[.int .i64 t.n, vk, vr, vx, .pointer (some ⟨mb, 0, none⟩)]
/-- Block bb is a base with a table, indexes and a map. -/
structure BasS (w : World) (bb mb base : Nat) (t : Tb) (vk vr vx v : Value) (L : List Pr) : Prop where
  b : Blk w bb 91 (baseC t vk vr vx mb)
  k : ∃ B, w.ownsRow B 59 1 vk t.k.length (ints t.k)
  r : ∃ B, w.ownsRow B 59 1 vr t.r.length (ints t.r)
  m : ModV w mb base v L
  ok : t.Ok
  r0 : 0 < t.r.length
/-- The one index of the people. -/
structure IxS (w : World) (vx : Value) (cb cc : Nat) : Prop where
  x : ∃ B, w.ownsRow B 41 3 vx 1 [.int .i64 3, .slice (some ⟨cb, 0, none⟩) 1 cc, .bool false]
  c : ∃ B, w.ownsRow B 3 1 (.slice (some ⟨cb, 0, none⟩) 1 cc) 1 [.int .i64 2]

section
variable {w w' : World} {bb mb base : Nat} {t : Tb} {vk vr vx v : Value} {L : List Pr} {cb cc : Nat}
theorem BasS.ks (h : BasS w bb mb base t vk vr vx v L) : KS w vk t.k := by obtain ⟨B, hk⟩ := h.k; exact KS.own hk h.ok.k0
theorem BasS.rs (h : BasS w bb mb base t vk vr vx v L) : KS w vr t.r := by obtain ⟨B, hk⟩ := h.r; exact KS.own hk h.r0
theorem BasS.ext (h : BasS w bb mb base t vk vr vx v L) (hC : Chg [] w w') : BasS w' bb mb base t vk vr vx v L := by
  obtain ⟨h1, ⟨B2, h2⟩, ⟨B3, h3⟩, h4, h5, h6⟩ := h
  exact ⟨h1.ext hC, ⟨B2, own_ext h2 hC⟩, ⟨B3, own_ext h3 hC⟩, h4.ext hC, h5, h6⟩
theorem IxS.ext (h : IxS w vx cb cc) (hC : Chg [] w w') : IxS w' vx cb cc := by
  obtain ⟨⟨B1, h1⟩, ⟨B2, h2⟩⟩ := h
  exact ⟨⟨B1, own_ext h1 hC⟩, ⟨B2, own_ext h2 hC⟩⟩
/-- Another block of the program's turns: the base stays. -/
theorem BasS.far (h : BasS w bb mb base t vk vr vx v L) {x : Nat} {ty : TypeId} {cs : Array Value} (hx : Blk w x ty cs) (h1 : ty ≠ 59) (h2 : ty ≠ 135) (h3 : ty ≠ 93) (hb : x ≠ bb) (hC : Chg [x] w w') : BasS w' bb mb base t vk vr vx v L := by
  obtain ⟨a1, ⟨B2, a2⟩, ⟨B3, a3⟩, a4, a5, a6⟩ := h
  refine ⟨a1.chg hC (by simpa using hb.symm), ⟨B2, own_chg a2 hC (fun k hk hm => own_ne a2 hx h1.symm hk (by simpa using hm))⟩, ⟨B3, own_chg a3 hC (fun k hk hm => own_ne a3 hx h1.symm hk (by simpa using hm))⟩, a4.chg hC (fun hm => a4.b.ne_ hx h2.symm (by simpa using hm)) (fun k hk hm => own_ne a4.o hx h3.symm hk (by simpa using hm)), a5, a6⟩
theorem IxS.far (h : IxS w vx cb cc) {x : Nat} {ty : TypeId} {cs : Array Value} (hx : Blk w x ty cs) (h1 : ty ≠ 41) (h2 : ty ≠ 3) (hC : Chg [x] w w') : IxS w' vx cb cc := by
  obtain ⟨⟨B1, a1⟩, ⟨B2, a2⟩⟩ := h
  exact ⟨⟨B1, own_chg a1 hC (fun k hk hm => own_ne a1 hx h1.symm hk (by simpa using hm))⟩, ⟨B2, own_chg a2 hC (fun k hk hm => own_ne a2 hx h2.symm hk (by simpa using hm))⟩⟩
theorem IxS.cell (h : IxS w vx cb cc) : w.cell? ⟨cb, 0, none⟩ = some (.int .i64 2) := by
  obtain ⟨_, ⟨B2, a2⟩⟩ := h
  obtain ⟨cur, _, hB, _, _, _, hs, ht⟩ := own_blk a2
  rw [hB.cell, ← Array.getElem?_toList]
  have := congrArg (fun l => l[0]?) ht
  simp only [List.getElem?_take] at this
  simpa using this
theorem IxS.at_ (h : IxS w vx cb cc) : ∃ s o c, vx = .slice (some ⟨s, o, none⟩) 1 c ∧ s < w.heap.size ∧ ∀ j, j < 3 → w.cell? ⟨s, o + j, none⟩ = [Value.int .i64 3, .slice (some ⟨cb, 0, none⟩) 1 cc, .bool false][j]? := by
  obtain ⟨⟨B1, a1⟩, _⟩ := h
  exact own_at a1 (by omega)
theorem IxS.cb_lt (h : IxS w vx cb cc) : cb < w.heap.size := block_lt_of_cell h.cell
end

theorem base_tb {w : World} {bb mb : Nat} {t : Tb} {vk vr vx : Value} (hB : Blk w bb 91 (baseC t vk vr vx mb)) : w.rangeAt bb 0 (tbV t vk vr).toList := by
  intro j u hj
  rw [Nat.zero_add, hB.cell]
  match j, hj with
  | 0, hj => exact hj
  | 1, hj => exact hj
  | 2, hj => exact hj
theorem wpList_load_tb {ops : Array Oper} {rest : List Oper} {o : Oper} {a : Act} {w : World} {Q : Exit → Act → World → Prop} (hw : Region.wanted o (yielded ops a.tmps) = true) (x : Operand) (ho : o.op = .load 37 x) (bb mb : Nat) (hx : a.eval x = .pointer (some ⟨bb, 0, none⟩)) (t : Tb) (vk vr vx : Value)
    (hB : Blk w bb 91 (baseC t vk vr vx mb)) (h : wpList Tryz.prog ops Q rest (a.put o.dst (.agg (tbV t vk vr))) w) : wpList Tryz.prog ops Q (o :: rest) a w := by
  refine wpList_wanted hw fun K hK => ?_
  have hr := run_loadVar_mid (P := Tryz.prog) w bb 0 37 (tbV t vk vr).toList _ (base_tb hB) Tryz.underlying37 rfl (by kernel_rfl)
  unfold Oper.wp execOp
  simp only [ho, hx, Instr.loadAt, Instr.sureAddr, Sem.run_bind, Sem.run_pure, Result.andThen_ok, hr, Array.toArray_toList]
  exact hK _ _ h

section
variable (bb mb base : Nat) (t : Tb) (vk vr vx v : Value) (L : List Pr) (w : World)
set_option maxRecDepth 100000 in
set_option maxHeartbeats 1000000 in
theorem bnone_w (h : BasS w bb mb base t vk vr vx v L) :
    Calls Tryz.prog 34 #[.pointer (some ⟨bb, 0, none⟩)] w fun e w' => e = .returned (.bool false) ∧ w = w' := by
  have c4 : w.cell? ⟨bb, 4, none⟩ = some (.pointer (some ⟨mb, 0, none⟩)) := h.b.cell 4
  go_enter Tryz.func34, Tryz.ntmps34
  go_wp2
  go_ret
  exact ⟨rfl, rfl⟩

set_option maxRecDepth 100000 in
set_option maxHeartbeats 1000000 in
theorem bget_some (l : List Cl) (h : BasS w bb mb base t vk vr vx v L) (hR : RowOk t l) (hG : Gv w) (h0 : 0 < (rkey t l).size) (hk24 : (rkey t l).size ≤ 24) (hv40 : (rval t l).size ≤ 40) (hm : (rkey t l, rval t l) ∈ L) :
    Calls Tryz.prog 38 #[.pointer (some ⟨bb, 0, none⟩), .string (rkey t l)] w fun e w' => ∃ v', e = .returned (.tuple #[v', .int .i64 0]) ∧ w'.ownsRow w.heap.size 62 5 v' l.length (cls l) ∧ Chg [] w w' := by
  have c4 : w.cell? ⟨bb, 4, none⟩ = some (.pointer (some ⟨mb, 0, none⟩)) := h.b.cell 4
  have hK1 := h.ks
  have hK2 := h.rs
  have hmo := h.m
  have hB := h.b
  clear h
  go_enter Tryz.func38, Tryz.ntmps38
  go_wp2_with (first
    | (go_at_call 40; refine (mget_some mb base v L _ _ _ hmo h0 hk24 hm).mono ?_; rintro e w1 ⟨rfl, hC1⟩; have hB1 := hB.ext hC1)
    | (refine wpList_load_tb (by rfl) (.tmp 22) rfl bb mb rfl t vk vr vx hB1 ?_)
    | (go_at_call 45; refine (read_row t vk vr l _ hR (hK1.ext hC1) (hK2.ext hC1) (hG.chg hC1 (by simp)) hk24 hv40).mono ?_; rintro e w2 ⟨v2, rfl, ho2, hC2⟩))
  go_ret2
  exact ⟨v2, rfl, own_base (b' := w.heap.size) ho2 hC1.size, hC1.trans hC2⟩

set_option maxRecDepth 100000 in
set_option maxHeartbeats 1000000 in
theorem bget_none (key : ByteArray) (h : BasS w bb mb base t vk vr vx v L) (h0 : 0 < key.size) (hk24 : key.size ≤ 24) (hm : ∀ x ∈ L, x.1 ≠ key) :
    Calls Tryz.prog 38 #[.pointer (some ⟨bb, 0, none⟩), .string key] w fun e w' => e = .returned (.tuple #[.slice none 0 0, .int .i64 9]) ∧ Chg [] w w' := by
  have c4 : w.cell? ⟨bb, 4, none⟩ = some (.pointer (some ⟨mb, 0, none⟩)) := h.b.cell 4
  have hmo := h.m
  clear h
  go_enter Tryz.func38, Tryz.ntmps38
  go_wp2_with (first
    | (go_at_call 40; refine (mget_none mb base v L _ _ hmo h0 hk24 hm).mono ?_; rintro e w1 ⟨rfl, hC1⟩))
  go_ret2
  exact ⟨rfl, hC1⟩

set_option maxRecDepth 100000 in
set_option maxHeartbeats 1000000 in
theorem bgetk_w (l ks : List Cl) (u : Value) (h : BasS w bb mb base t vk vr vx v L) (hR : RowOk t l) (hG : Gv w) (hks : ks = l.take t.k.length) (hS : Sl w 5 u ks.length (cls ks)) (hu : ∀ k, u.ownBlock = some k → k < w.heap.size) (h0 : 0 < (rkey t l).size) (hk24 : (rkey t l).size ≤ 24) (hv40 : (rval t l).size ≤ 40) (hm : (rkey t l, rval t l) ∈ L) :
    Calls Tryz.prog 49 #[.pointer (some ⟨bb, 0, none⟩), u] w fun e w' => ∃ v', e = .returned (.tuple #[v', .int .i64 0]) ∧ w'.ownsRow w.heap.size 62 5 v' l.length (cls l) ∧ Chg [] w w' := by
  have hkd : ks.map Cl.kd = t.k := by rw [hks, List.map_take, hR.kd]; simp
  have hok : ∀ c ∈ ks, c.Ok := fun c hc => hR.ok c (by rw [hks] at hc; exact List.mem_of_mem_take hc)
  have hck : ckey t ks = rkey t l := by rw [hks]; rfl
  have hkc := keyc_w t vk vr u ks w hR.tb hkd hok h.ks h.rs hS hu hG (by rw [hck]; exact hk24)
  rw [hck] at hkc
  have hB := h.b
  clear hkd hck hks
  have Hkc := Lib.hid hkc
  clear hkc
  go_enter Tryz.func49, Tryz.ntmps49
  go_wp2_with (first
    | (go_at_call 34; refine (bnone_w bb mb base t vk vr vx v L _ h).mono ?_; rintro e w1 ⟨rfl, rfl⟩)
    | (refine wpList_load_tb (by rfl) (.tmp 13) rfl bb mb rfl t vk vr vx hB ?_)
    | (go_at_call 92; refine (Hkc.out).mono ?_; rintro e w2 ⟨rfl, hC2⟩)
    | (go_at_call 38; refine (bget_some bb mb base t vk vr vx v L _ l (h.ext hC2) hR (hG.chg hC2 (by simp)) h0 hk24 hv40 hm).mono ?_; rintro e w3 ⟨v3, rfl, ho3, hC3⟩))
  go_ret2
  exact ⟨v3, rfl, own_base (b' := w.heap.size) ho3 hC2.size, hC2.trans hC3⟩
end

end Go.Proofs.YtpcaadipejnllaaGreatDoor

/- The plain law of the two tables: what the tree and the two bases hold. -/
set_option linter.unusedVariables false
set_option linter.unusedSimpArgs false
namespace Go.Proofs.YtpcaadipejnllaaGreatDoor
open Go.RowKit

/-- A person put into the people, by the number; into the towns, by the name. -/
def upP (p : Per) (M : List Per) : List Per := p :: M.filter fun q => decide (q.id ≠ p.id)
def upT (p : Per) (M : List Per) : List Per := p :: M.filter fun q => decide (q.nm ≠ p.nm)
theorem upP_mem (p : Per) (M : List Per) (q : Per) : q ∈ upP p M ↔ q = p ∨ (q ∈ M ∧ q.id ≠ p.id) := by simp [upP]
theorem upT_mem (p : Per) (M : List Per) (q : Per) : q ∈ upT p M ↔ q = p ∨ (q ∈ M ∧ q.nm ≠ p.nm) := by simp [upT]

structure Ppl (M : List Per) : Prop where
  ok : ∀ p ∈ M, p.Ok
  nd : M.Pairwise fun p q => p.id ≠ q.id
structure Twn (M : List Per) : Prop where
  ok : ∀ p ∈ M, p.Ok
  nd : M.Pairwise fun p q => p.nm ≠ q.nm
theorem pair_uni {α β : Type} {f : α → β} : ∀ {M : List α}, M.Pairwise (fun p q => f p ≠ f q) → ∀ p ∈ M, ∀ q ∈ M, f p = f q → p = q
  | [], _, p, hp, _, _, _ => by simp at hp
  | x :: M, h, p, hp, q, hq, e => by
    obtain ⟨h1, h2⟩ := List.pairwise_cons.1 h
    rcases List.mem_cons.1 hp with rfl | hp' <;> rcases List.mem_cons.1 hq with rfl | hq'
    · rfl
    · exact absurd e (h1 q hq')
    · exact absurd e.symm (h1 p hp')
    · exact pair_uni h2 p hp' q hq' e
theorem Ppl.up {M : List Per} (h : Ppl M) {p : Per} (hp : p.Ok) : Ppl (upP p M) :=
  ⟨fun q hq => by rcases (upP_mem p M q).1 hq with rfl | ⟨h1, _⟩; exact hp; exact h.ok q h1, List.pairwise_cons.2 ⟨fun q hq => by have := (List.mem_filter.1 hq).2; simp at this; exact fun e => this e.symm, h.nd.filter _⟩⟩
theorem Twn.up {M : List Per} (h : Twn M) {p : Per} (hp : p.Ok) : Twn (upT p M) :=
  ⟨fun q hq => by rcases (upT_mem p M q).1 hq with rfl | ⟨h1, _⟩; exact hp; exact h.ok q h1, List.pairwise_cons.2 ⟨fun q hq => by have := (List.mem_filter.1 hq).2; simp at this; exact fun e => this e.symm, h.nd.filter _⟩⟩

/-- What the tree holds. -/
structure TreeL (M N : List Per) (c : List Pr) : Prop where
  srt : Srt c
  mem : ∀ x, x ∈ c ↔ (∃ p ∈ M, x = prP p) ∨ (∃ p ∈ N, x = prT p)
/-- What the base of the people holds, with its index. -/
structure BaseA (M : List Per) (c : List Pr) : Prop where
  srt : Srt c
  mem : ∀ x, x ∈ c ↔ (∃ p ∈ M, x = prP p) ∨ (∃ p ∈ M, x = prE p)
/-- What the base of the towns holds. -/
structure BaseB (N : List Per) (c : List Pr) : Prop where
  srt : Srt c
  mem : ∀ x, x ∈ c ↔ ∃ p ∈ N, x = prT p

theorem TreeL.nil : TreeL [] [] [] := ⟨Srt.nil, by simp⟩
theorem BaseA.nil : BaseA [] [] := ⟨Srt.nil, by simp⟩
theorem BaseB.nil : BaseB [] [] := ⟨Srt.nil, by simp⟩

theorem TreeL.up {M N : List Per} {c : List Pr} (h : TreeL M N c) (hM : Ppl M) (hN : Twn N) {p : Per} (hp : p.Ok) : TreeL (upP p M) (upT p N) (ins (prT p) (ins (prP p) c)) := by
  refine ⟨h.srt.ins.ins, fun x => ?_⟩
  rw [ins_mem_iff h.srt.ins, ins_mem_iff h.srt, h.mem]
  constructor
  · rintro (rfl | ⟨rfl | ⟨⟨q, hq, rfl⟩ | ⟨q, hq, rfl⟩, h1⟩, h2⟩)
    · exact .inr ⟨p, (upT_mem _ _ _).2 (.inl rfl), rfl⟩
    · exact .inl ⟨p, (upP_mem _ _ _).2 (.inl rfl), rfl⟩
    · exact .inl ⟨q, (upP_mem _ _ _).2 (.inr ⟨hq, fun e => h1 (prP_same e)⟩), rfl⟩
    · exact .inr ⟨q, (upT_mem _ _ _).2 (.inr ⟨hq, fun e => h2 (prT_same e)⟩), rfl⟩
  · rintro (⟨q, hq, rfl⟩ | ⟨q, hq, rfl⟩)
    · rcases (upP_mem _ _ _).1 hq with rfl | ⟨hq, hne⟩
      · exact .inr ⟨.inl rfl, PT_ne _ _⟩
      · exact .inr ⟨.inr ⟨.inl ⟨q, hq, rfl⟩, fun e => hne (prP_inj (hM.ok q hq) hp e)⟩, PT_ne _ _⟩
    · rcases (upT_mem _ _ _).1 hq with rfl | ⟨hq, hne⟩
      · exact .inl rfl
      · exact .inr ⟨.inr ⟨.inr ⟨q, hq, rfl⟩, fun e => PT_ne _ _ e.symm⟩, fun e => hne (prT_inj e)⟩

/-- The base of the people without the one with a number. -/
theorem BaseA.out {M : List Per} {c : List Pr} (h : BaseA M c) (hM : Ppl M) {q : Per} (hq : q ∈ M) (x : Pr) :
    x ∈ rmv (prE q).1 (rmv (prP q).1 c) ↔ (∃ r ∈ M, r.id ≠ q.id ∧ x = prP r) ∨ (∃ r ∈ M, r.id ≠ q.id ∧ x = prE r) := by
  rw [rmv_mem, rmv_mem, h.mem]
  constructor
  · rintro ⟨⟨⟨r, hr, rfl⟩ | ⟨r, hr, rfl⟩, h1⟩, h2⟩
    · exact .inl ⟨r, hr, fun e => h1 (prP_same e), rfl⟩
    · refine .inr ⟨r, hr, fun e => h2 ?_, rfl⟩
      rw [pair_uni hM.nd r hr q hq e]
  · rintro (⟨r, hr, hne, rfl⟩ | ⟨r, hr, hne, rfl⟩)
    · exact ⟨⟨.inl ⟨r, hr, rfl⟩, fun e => hne (prP_inj (hM.ok r hr) (hM.ok q hq) e)⟩, PE_ne _ _⟩
    · exact ⟨⟨.inr ⟨r, hr, rfl⟩, fun e => PE_ne _ _ e.symm⟩, fun e => hne (prE_inj (hM.ok r hr) (hM.ok q hq) e)⟩
theorem BaseA.none {M : List Per} {c : List Pr} (h : BaseA M c) {p : Per} (hn : ∀ q ∈ M, q.id ≠ p.id) (x : Pr) :
    x ∈ c ↔ (∃ r ∈ M, r.id ≠ p.id ∧ x = prP r) ∨ (∃ r ∈ M, r.id ≠ p.id ∧ x = prE r) := by
  rw [h.mem]
  constructor
  · rintro (⟨r, hr, rfl⟩ | ⟨r, hr, rfl⟩)
    · exact .inl ⟨r, hr, hn r hr, rfl⟩
    · exact .inr ⟨r, hr, hn r hr, rfl⟩
  · rintro (⟨r, hr, _, rfl⟩ | ⟨r, hr, _, rfl⟩)
    · exact .inl ⟨r, hr, rfl⟩
    · exact .inr ⟨r, hr, rfl⟩
/-- Neither key of a person is there. -/
theorem out_gone {M : List Per} {c : List Pr} (hM : Ppl M) {p : Per} (hp : p.Ok) (h : ∀ x, x ∈ c ↔ (∃ r ∈ M, r.id ≠ p.id ∧ x = prP r) ∨ (∃ r ∈ M, r.id ≠ p.id ∧ x = prE r)) :
    ∀ x ∈ c, x.1 ≠ (prP p).1 ∧ x.1 ≠ (prE p).1 := by
  intro x hx
  rcases (h x).1 hx with ⟨r, hr, hne, rfl⟩ | ⟨r, hr, hne, rfl⟩
  · exact ⟨fun e => hne (prP_inj (hM.ok r hr) hp e), PE_ne _ _⟩
  · exact ⟨fun e => PE_ne _ _ e.symm, fun e => hne (prE_inj (hM.ok r hr) hp e)⟩
theorem out_up {M : List Per} {c : List Pr} (hc : Srt c) (hM : Ppl M) {p : Per} (hp : p.Ok) (h : ∀ x, x ∈ c ↔ (∃ r ∈ M, r.id ≠ p.id ∧ x = prP r) ∨ (∃ r ∈ M, r.id ≠ p.id ∧ x = prE r)) :
    BaseA (upP p M) (ins (prE p) (ins (prP p) c)) := by
  have hg := out_gone hM hp h
  refine ⟨hc.ins.ins, fun x => ?_⟩
  rw [ins_mem_iff hc.ins, ins_mem_iff hc]
  constructor
  · rintro (rfl | ⟨rfl | ⟨hx, _⟩, _⟩)
    · exact .inr ⟨p, (upP_mem _ _ _).2 (.inl rfl), rfl⟩
    · exact .inl ⟨p, (upP_mem _ _ _).2 (.inl rfl), rfl⟩
    · rcases (h x).1 hx with ⟨r, hr, hne, rfl⟩ | ⟨r, hr, hne, rfl⟩
      · exact .inl ⟨r, (upP_mem _ _ _).2 (.inr ⟨hr, hne⟩), rfl⟩
      · exact .inr ⟨r, (upP_mem _ _ _).2 (.inr ⟨hr, hne⟩), rfl⟩
  · rintro (⟨q, hq, rfl⟩ | ⟨q, hq, rfl⟩)
    · rcases (upP_mem _ _ _).1 hq with rfl | ⟨hq, hne⟩
      · exact .inr ⟨.inl rfl, PE_ne _ _⟩
      · have hx := (h (prP q)).2 (.inl ⟨q, hq, hne, rfl⟩)
        exact .inr ⟨.inr ⟨hx, (hg _ hx).1⟩, PE_ne _ _⟩
    · rcases (upP_mem _ _ _).1 hq with rfl | ⟨hq, hne⟩
      · exact .inl rfl
      · have hx := (h (prE q)).2 (.inr ⟨q, hq, hne, rfl⟩)
        exact .inr ⟨.inr ⟨hx, (hg _ hx).1⟩, (hg _ hx).2⟩
theorem BaseB.out {N : List Per} {c : List Pr} (h : BaseB N c) {p : Per} (x : Pr) : x ∈ rmv (prT p).1 c ↔ ∃ r ∈ N, r.nm ≠ p.nm ∧ x = prT r := by
  rw [rmv_mem, h.mem]
  constructor
  · rintro ⟨⟨r, hr, rfl⟩, h1⟩
    exact ⟨r, hr, fun e => h1 (prT_same e), rfl⟩
  · rintro ⟨r, hr, hne, rfl⟩
    exact ⟨⟨r, hr, rfl⟩, fun e => hne (prT_inj e)⟩
theorem BaseB.up {N : List Per} {c : List Pr} (h : BaseB N c) {p : Per} : BaseB (upT p N) (ins (prT p) (rmv (prT p).1 c)) := by
  have hs : Srt (rmv (prT p).1 c) := h.srt.filter _
  refine ⟨hs.ins, fun x => ?_⟩
  rw [ins_mem_iff hs, h.out]
  constructor
  · rintro (rfl | ⟨⟨r, hr, hne, rfl⟩, _⟩)
    · exact ⟨p, (upT_mem _ _ _).2 (.inl rfl), rfl⟩
    · exact ⟨r, (upT_mem _ _ _).2 (.inr ⟨hr, hne⟩), rfl⟩
  · rintro ⟨q, hq, rfl⟩
    rcases (upT_mem _ _ _).1 hq with rfl | ⟨hq, hne⟩
    · exact .inl rfl
    · exact .inr ⟨⟨q, hq, hne, rfl⟩, fun e => hne (prT_inj e)⟩
theorem rmv_id {k : ByteArray} {c : List Pr} (h : ∀ x ∈ c, x.1 ≠ k) : rmv k c = c := List.filter_eq_self.2 fun y hy => by simp [h y hy]

/-! ### spans -/
def one (b : Nat) : ByteArray := ⟨#[UInt8.ofNat b]⟩
def selq (b : Nat) (x : Pr) : Bool := decide (0 ≤ cmpS x.1 (one b)) && decide (cmpS x.1 (one (b + 1)) < 0)
def sel (b : Nat) (L : List Pr) : List Pr := L.filter (selq b)
theorem cb_nil (r : List UInt8) : 0 ≤ Lib.compareBytes r [] := by cases r <;> simp [Lib.compareBytes]
theorem head_ge {h b : Nat} (r : List UInt8) (hh : h < 256) (hb : b < 256) : 0 ≤ Lib.compareBytes (UInt8.ofNat h :: r) [UInt8.ofNat b] ↔ b ≤ h := by
  have hn := cb_nil r
  have e1 := ofNat_lt hh hb
  have e2 := ofNat_lt hb hh
  rw [cb_cons]
  split
  · rename_i c; rw [e1] at c; constructor <;> intro e <;> omega
  · split
    · rename_i c c2; rw [e2] at c2; constructor <;> intro e <;> omega
    · rename_i c c2; rw [e1] at c; rw [e2] at c2; constructor <;> intro e <;> omega
theorem sel_head {x : Pr} {h b : Nat} {r : List UInt8} (hk : x.1.data.toList = UInt8.ofNat h :: r) (hh : h < 255) (hb : b < 255) : selq b x = decide (h = b) := by
  have e1 : cmpS x.1 (one b) = Lib.compareBytes (UInt8.ofNat h :: r) [UInt8.ofNat b] := by unfold cmpS; rw [hk]; rfl
  have e2 : cmpS x.1 (one (b + 1)) = Lib.compareBytes (UInt8.ofNat h :: r) [UInt8.ofNat (b + 1)] := by unfold cmpS; rw [hk]; rfl
  have a1 := head_ge (h := h) (b := b) r (by omega) (by omega)
  have a2 := head_ge (h := h) (b := b + 1) r (by omega) (by omega)
  unfold selq
  rw [e1, e2, Bool.eq_iff_iff, Bool.and_eq_true, decide_eq_true_eq, decide_eq_true_eq, decide_eq_true_eq, a1, ← Int.not_le, a2]
  omega
theorem selP (p : Per) (b : Nat) (hb : b < 255) : selq b (prP p) = decide (1 = b) := sel_head (prP_key p) (by decide) hb
theorem selT (p : Per) (b : Nat) (hb : b < 255) : selq b (prT p) = decide (2 = b) := sel_head (prT_key p) (by decide) hb
theorem selE (p : Per) (b : Nat) (hb : b < 255) : selq b (prE p) = decide (3 = b) := sel_head (prE_key p) (by decide) hb
theorem Srt.sel {L : List Pr} (h : Srt L) (b : Nat) : Srt (sel b L) := h.filter _
theorem TreeL.sel1 {M N : List Per} {c : List Pr} (h : TreeL M N c) (x : Pr) : x ∈ sel 1 c ↔ ∃ p ∈ M, x = prP p := by
  unfold sel
  rw [List.mem_filter, h.mem]
  constructor
  · rintro ⟨h1 | ⟨p, hp, rfl⟩, h2⟩
    · exact h1
    · rw [selT p 1 (by decide)] at h2; simp at h2
  · rintro ⟨p, hp, rfl⟩
    exact ⟨.inl ⟨p, hp, rfl⟩, by rw [selP p 1 (by decide)]; rfl⟩
theorem TreeL.sel2 {M N : List Per} {c : List Pr} (h : TreeL M N c) (x : Pr) : x ∈ sel 2 c ↔ ∃ p ∈ N, x = prT p := by
  unfold sel
  rw [List.mem_filter, h.mem]
  constructor
  · rintro ⟨⟨p, hp, rfl⟩ | h1, h2⟩
    · rw [selP p 2 (by decide)] at h2; simp at h2
    · exact h1
  · rintro ⟨p, hp, rfl⟩
    exact ⟨.inr ⟨p, hp, rfl⟩, by rw [selT p 2 (by decide)]; rfl⟩
theorem BaseA.sel1 {M : List Per} {c : List Pr} (h : BaseA M c) (x : Pr) : x ∈ sel 1 c ↔ ∃ p ∈ M, x = prP p := by
  unfold sel
  rw [List.mem_filter, h.mem]
  constructor
  · rintro ⟨h1 | ⟨p, hp, rfl⟩, h2⟩
    · exact h1
    · rw [selE p 1 (by decide)] at h2; simp at h2
  · rintro ⟨p, hp, rfl⟩
    exact ⟨.inl ⟨p, hp, rfl⟩, by rw [selP p 1 (by decide)]; rfl⟩
theorem BaseA.sel3 {M : List Per} {c : List Pr} (h : BaseA M c) (x : Pr) : x ∈ sel 3 c ↔ ∃ p ∈ M, x = prE p := by
  unfold sel
  rw [List.mem_filter, h.mem]
  constructor
  · rintro ⟨⟨p, hp, rfl⟩ | h1, h2⟩
    · rw [selP p 3 (by decide)] at h2; simp at h2
    · exact h1
  · rintro ⟨p, hp, rfl⟩
    exact ⟨.inr ⟨p, hp, rfl⟩, by rw [selE p 3 (by decide)]; rfl⟩
theorem BaseB.sel2 {N : List Per} {c : List Pr} (h : BaseB N c) (x : Pr) : x ∈ sel 2 c ↔ ∃ p ∈ N, x = prT p := by
  unfold sel
  rw [List.mem_filter, h.mem]
  constructor
  · rintro ⟨h1, _⟩; exact h1
  · rintro ⟨p, hp, rfl⟩
    exact ⟨⟨p, hp, rfl⟩, by rw [selT p 2 (by decide)]; rfl⟩

/-- A list of pairs of a form is the list of some persons. -/
theorem as_map {f : Per → Pr} {Q : Per → Prop} : ∀ (L : List Pr), (∀ x ∈ L, ∃ p, Q p ∧ x = f p) → ∃ R : List Per, L = R.map f ∧ ∀ p ∈ R, Q p
  | [], _ => ⟨[], rfl, by simp⟩
  | x :: L, h => by
    obtain ⟨p, hp, rfl⟩ := h x (by simp)
    obtain ⟨R, rfl, hR⟩ := as_map L fun y hy => h y (List.mem_cons_of_mem _ hy)
    exact ⟨p :: R, rfl, by simpa using ⟨hp, hR⟩⟩
theorem nodup_le {α : Type} : ∀ {l m : List α}, l.Nodup → (∀ x ∈ l, x ∈ m) → l.length ≤ m.length
  | [], m, _, _ => by simp
  | x :: l, m, h, hs => by
    obtain ⟨h1, h2⟩ := List.nodup_cons.1 h
    obtain ⟨A, B, rfl⟩ := List.append_of_mem (hs x (by simp))
    have := nodup_le (m := A ++ B) h2 fun y hy => by
      have hm := hs y (List.mem_cons_of_mem _ hy)
      have hne : y ≠ x := fun e => h1 (e ▸ hy)
      simp [hne] at hm
      simpa using hm
    simp at this ⊢; omega
theorem nodup_len {α : Type} {l m : List α} (hl : l.Nodup) (hm : m.Nodup) (h : ∀ x, x ∈ l ↔ x ∈ m) : l.length = m.length :=
  Nat.le_antisymm (nodup_le hl fun x hx => (h x).1 hx) (nodup_le hm fun x hx => (h x).2 hx)
theorem pair_nodup {β : Type} {f : Per → β} {M : List Per} (h : M.Pairwise fun p q => f p ≠ f q) : (M.map f).Nodup := by
  unfold List.Nodup
  rw [List.pairwise_map]
  exact h
theorem BaseA.lens {M : List Per} {c : List Pr} (h : BaseA M c) (hM : Ppl M) : (sel 1 c).length = M.length ∧ (sel 3 c).length = M.length := by
  constructor
  · rw [nodup_len (m := M.map prP) (h.srt.sel 1).nodup (pair_nodup (hM.nd.imp_of_mem fun {p q} hp hq hne e => hne (prP_inj (hM.ok p hp) (hM.ok q hq) (congrArg Prod.fst e)))) fun x => by rw [h.sel1]; simp [eq_comm]]
    simp
  · rw [nodup_len (m := M.map prE) (h.srt.sel 3).nodup (pair_nodup (hM.nd.imp_of_mem fun {p q} hp hq hne e => hne (prE_inj (hM.ok p hp) (hM.ok q hq) (congrArg Prod.fst e)))) fun x => by rw [h.sel3]; simp [eq_comm]]
    simp
theorem TreeL.len {M N : List Per} {c : List Pr} (h : TreeL M N c) : c.length = (sel 1 c).length + (sel 2 c).length := by
  have key : ∀ L : List Pr, (∀ x ∈ L, (∃ p, x = prP p) ∨ (∃ p, x = prT p)) → L.length = (sel 1 L).length + (sel 2 L).length := by
    intro L
    induction L with
    | nil => intro _; rfl
    | cons x L ih =>
      intro hx
      have ih := ih fun y hy => hx y (List.mem_cons_of_mem _ hy)
      unfold sel at ih ⊢
      rw [List.filter_cons, List.filter_cons]
      rcases hx x (by simp) with ⟨p, rfl⟩ | ⟨p, rfl⟩
      · rw [selP p 1 (by decide), selP p 2 (by decide)]; simp; omega
      · rw [selT p 1 (by decide), selT p 2 (by decide)]; simp; omega
  exact key c fun x hx => by rcases (h.mem x).1 hx with ⟨p, _, e⟩ | ⟨p, _, e⟩; exact .inl ⟨p, e⟩; exact .inr ⟨p, e⟩
/-- Entries in their order are in the order of the scores. -/
theorem prE_le {p q : Per} (hp : p.Ok) (hq : q.Ok) (h : cmpS (prE p).1 (prE q).1 < 0) : p.sc ≤ q.sc := by
  rcases Int.lt_or_le q.sc p.sc with c | c
  · have := enc_i_lt hq.s.1 hp.s.2 c (enc (.u q.id)) (enc (.u p.id))
    have e : cmpS (prE q).1 (prE p).1 < 0 := by
      unfold cmpS
      rw [prE_key, prE_key, cb_cons, if_neg (by rw [u8_lt]; omega), if_neg (by rw [u8_lt]; omega)]
      exact this
    have := cmp_trans h e
    rw [cmp_refl] at this
    omega
  · exact c

/-! ### how much the tree holds -/
theorem TreeL.load {M N : List Per} {c : List Pr} {p : Per} (hp : p.Ok) {k : Nat} (hl : load c ≤ 11 * k) : load (ins (prP p) c) ≤ 11 * k + 6 ∧ load (ins (prT p) (ins (prP p) c)) ≤ 11 * (k + 1) := by
  have h1 := ins_load (prP p) c
  have h2 := ins_load (prT p) (ins (prP p) c)
  have h3 := prP_cost hp
  have h4 := prT_cost hp
  omega

end Go.Proofs.YtpcaadipejnllaaGreatDoor

/- A row and its entries are taken out of a map. -/
set_option linter.unusedVariables false
set_option linter.unusedSimpArgs false
namespace Go.Proofs.YtpcaadipejnllaaGreatDoor
open Go.RowKit

theorem rng3 {w : World} {b : Nat} {ty : TypeId} {l : List Value} (hB : Blk w b ty l.toArray) : w.rangeAt b 0 l := fun j u hj => by
  rw [Nat.zero_add, hB.cell, List.getElem?_toArray]; exact hj
theorem own_apart {w : World} {b1 b2 : Nat} {e1 e2 : TypeId} {s1 s2 n1 n2 q : Nat} {v1 v2 : Value} {x1 x2 : List Value} (h1 : w.ownsRow b1 e1 s1 v1 n1 x1) (h2 : w.ownsRow b2 e2 s2 v2 n2 x2) (hne : e1 ≠ e2) (hq : v1.ownBlock = some q) : v2.ownBlock ≠ some q := by
  intro hq2
  rcases h2.2 with ⟨rfl, _⟩ | ⟨g, c, cur, rfl, _, hg, _⟩
  · cases hq2
  · have : g = q := by simpa [Value.ownBlock] using hq2
    subst this
    exact own_ne h1 (tb := g) (t := e2) (cs := cur) hg hne hq rfl
theorem wpList_load_rng {ops : Array Oper} {rest : List Oper} {o : Oper} {a : Act} {w : World} {Q : Exit → Act → World → Prop} (hw : Region.wanted o (yielded ops a.tmps) = true) (ty : TypeId) (x : Operand) (ho : o.op = .load ty x) (b k : Nat) (hx : a.eval x = .pointer (some ⟨b, k, none⟩)) (cs : List Value) (d : TypeDesc)
    (hr : w.rangeAt b k cs) (hu : Tryz.prog.underlying ty = some d) (hd : d.isRow = true) (hi : (Tryz.prog.info? ty).map (·.size) = some cs.length) (h : wpList Tryz.prog ops Q rest (a.put o.dst (.agg cs.toArray)) w) : wpList Tryz.prog ops Q (o :: rest) a w := by
  refine wpList_wanted hw fun K hK => ?_
  have hr := run_loadVar_mid (P := Tryz.prog) w b k ty cs _ hr hu hd hi
  unfold Oper.wp execOp
  simp only [ho, hx, Instr.loadAt, Instr.sureAddr, Sem.run_bind, Sem.run_pure, Result.andThen_ok, hr]
  exact hK _ _ h
theorem IxS.rng {w : World} {s o c cb cc : Nat} (h : IxS w (.slice (some ⟨s, o, none⟩) 1 c) cb cc) : w.rangeAt s o [Value.int .i64 3, .slice (some ⟨cb, 0, none⟩) 1 cc, .bool false] := by
  obtain ⟨s', o', c', e, _, hx⟩ := h.at_
  injection e with e1 e2 e3
  injection e1 with e1
  injection e1 with e1 e4
  subst e1 e4
  intro j u hj
  rw [hx j (by have := (List.getElem?_eq_some_iff.1 hj).1; simpa using this)]
  exact hj

section
variable (bb mb base : Nat) (vk vr vx v : Value) (L : List Pr) (cb cc : Nat) (w0 : World) (q : Per) (mb2 base2 Bu : Nat) (v2 : Value) (L2 : List Pr) (w : World) (u : Value)
set_option maxRecDepth 100000 in
set_option maxHeartbeats 1000000 in
theorem btake_t (hb : BasS w0 bb mb base tT vk vr (.slice none 0 0) v L) (hq : q.Ok) (hC : Chg [] w0 w) (hm : ModV w mb2 base2 v2 L2) (ha : w0.heap.size ≤ base2) (ha2 : w0.heap.size ≤ mb2) (hu : w.ownsRow Bu 62 5 u 2 (cls (rT q))) (hG : Gv w0) (hx : prT q ∈ L2) :
    Calls Tryz.prog 39 #[.pointer (some ⟨bb, 0, none⟩), .pointer (some ⟨mb2, 0, none⟩), u] w fun e w' => ∃ v', e = .returned (.tuple #[]) ∧ ModV w' mb2 base2 v' (rmv (prT q).1 L2) ∧ Chg [] w0 w' := by
  have hB := hb.b.ext hC
  obtain ⟨z0, z1, z2⟩ := prT_size hq
  have hul := fun k hk => (hu.lt k hk).2
  have hK1 := hb.ks.ext hC
  have hK2 := hb.rs.ext hC
  have hGw := hG.chg hC (by simp)
  go_enter Tryz.func39, Tryz.ntmps39
  go_wp2_with (first
    | (refine wpList_load_tb (by rfl) (.tmp 17) rfl bb mb rfl tT vk vr (.slice none 0 0) hB ?_)
    | (go_at_call 11; refine (row_w tT vk vr u (rT q) _ (rT_ok hq) hK1 hK2 (Sl.own hu) hul hGw (Nat.le_trans z1 (by decide)) (by show (prT q).2.size ≤ 40; omega)).mono ?_; rintro e w1 ⟨rfl, hC1⟩; have hm1 := hm.ext hC1)
    | (go_at_call 86; refine (mdelete_w mb2 base2 v2 L2 (prT q).1 (prT q).2 _ hm1 z0 (Nat.le_trans z1 (by decide)) hx).mono ?_; rintro e w2 ⟨v3, rfl, hm2, hC2⟩; have hCC2 : Chg [] w0 w2 := ((hC.trans hC1).on hC2 (fun i hi => .inr (by rcases List.mem_cons.1 hi with hi | hi; omega; have := (hm1.o.lt i (by simpa using hi)).1; omega))); have c3 : w2.cell? ⟨bb, 3, none⟩ = some (.slice none 0 0) := (hb.b.ext hCC2).cell 3))
  refine wp_loop_rounds 1 ?_
  rw [rounds_succ]
  go_wp2
  go_end0
  exact ⟨v3, rfl, hm2, hCC2⟩

set_option maxRecDepth 100000 in
set_option maxHeartbeats 1000000 in
theorem btake_p (hb : BasS w0 bb mb base tP vk vr vx v L) (hi : IxS w0 vx cb cc) (hq : q.Ok) (hC : Chg [] w0 w) (hm : ModV w mb2 base2 v2 L2) (ha : w0.heap.size ≤ base2) (ha2 : w0.heap.size ≤ mb2) (hu : w.ownsRow Bu 62 5 u 3 (cls (rP q))) (hG : Gv w0) (hx : prP q ∈ L2) (hx2 : prE q ∈ L2) :
    Calls Tryz.prog 39 #[.pointer (some ⟨bb, 0, none⟩), .pointer (some ⟨mb2, 0, none⟩), u] w fun e w' => ∃ v', e = .returned (.tuple #[]) ∧ ModV w' mb2 base2 v' (rmv (prE q).1 (rmv (prP q).1 L2)) ∧ Chg [] w0 w' := by
  have hB := hb.b.ext hC
  obtain ⟨z0, z1, z2⟩ := prP_size hq
  obtain ⟨y0, y1, y2⟩ := prE_size hq
  have hul := fun k hk => (hu.lt k hk).2
  have hK1 := hb.ks.ext hC
  have hK2 := hb.rs.ext hC
  have hGw := hG.chg hC (by simp)
  obtain ⟨s, o, c, rfl, hs, _⟩ := hi.at_
  go_enter Tryz.func39, Tryz.ntmps39
  go_wp2_with (first
    | (refine wpList_load_tb (by rfl) (.tmp 17) rfl bb mb rfl tP vk vr (.slice (some ⟨s, o, none⟩) 1 c) hB ?_)
    | (go_at_call 11; refine (row_w tP vk vr u (rP q) _ (rP_ok hq) hK1 hK2 (Sl.own hu) hul hGw (Nat.le_trans z1 (by decide)) (by show (prP q).2.size ≤ 40; omega)).mono ?_; rintro e w1 ⟨rfl, hC1⟩; have hm1 := hm.ext hC1)
    | (go_at_call 86; refine (mdelete_w mb2 base2 v2 L2 (prP q).1 (prP q).2 _ hm1 z0 (Nat.le_trans z1 (by decide)) hx).mono ?_; rintro e w2 ⟨v3, rfl, hm2, hC2⟩; have hCC2 : Chg [] w0 w2 := ((hC.trans hC1).on hC2 (fun i hi => .inr (by rcases List.mem_cons.1 hi with hi | hi; omega; have := (hm1.o.lt i (by simpa using hi)).1; omega))); have c3 : w2.cell? ⟨bb, 3, none⟩ = some (.slice (some ⟨s, o, none⟩) 1 c) := (hb.b.ext hCC2).cell 3))
  have hu2 : w2.ownsRow Bu 62 5 u 3 (cls (rP q)) := own_chg (own_ext hu hC1) hC2 (fun k hk hmem => by
    rcases List.mem_cons.1 hmem with e | e
    · exact own_ne (own_ext hu hC1) hm1.b (by decide) hk e
    · exact own_apart (own_ext hu hC1) hm1.o (by decide) hk (by simpa using e))
  have hr2 := (hi.ext hCC2).rng
  refine wp_loop_rounds 2 ?_
  rw [rounds_succ]
  go_upto_region 5 with (first
    | (refine wpList_load_rng (by rfl) 41 (.tmp 34) rfl s o rfl _ _ hr2 Tryz.underlying41 rfl (by kernel_rfl) ?_))
  have hA : Chg [] w2 (w2.alloc (.cells #[.int .i64 3, .slice (some ⟨cb, 0, none⟩) 1 cc, .bool false] 41)) := (Chg.refl _ _).alloc _
  have hBd := (hb.ext hCC2).ext hA
  have hIx := (hi.ext hCC2).ext hA
  have hXb : Blk (w2.alloc (.cells #[.int .i64 3, .slice (some ⟨cb, 0, none⟩) 1 cc, .bool false] 41)) w2.heap.size 41 #[.int .i64 3, .slice (some ⟨cb, 0, none⟩) 1 cc, .bool false] := Blk.new _ _ _
  have hU := own_ext hu2 hA
  have hGv := (hG.chg hCC2 (by simp)).chg hA (by simp)
  have hSra : ∀ W, Chg [] (w2.alloc (.cells #[.int .i64 3, .slice (some ⟨cb, 0, none⟩) 1 cc, .bool false] 41)) W → (W.rangeAt bb 0 (tbV tP vk vr).toList ∧ W.rangeAt (w2.heap.size) 0 [Value.int .i64 3, .slice (some ⟨cb, 0, none⟩) 1 cc, .bool false]) := fun W hW => ⟨base_tb (hBd.b.ext hW), rng3 (hXb.ext hW)⟩
  have hD0 : Chg [] (w2.alloc (.cells #[.int .i64 3, .slice (some ⟨cb, 0, none⟩) 1 cc, .bool false] 41)) ((w2.alloc (.cells #[.int .i64 3, .slice (some ⟨cb, 0, none⟩) 1 cc, .bool false] 41)).drew) := (Chg.refl _ _).drew
  refine wp_region_K (S := fun W => W.rangeAt bb 0 (tbV tP vk vr).toList ∧ W.rangeAt (w2.heap.size) 0 [Value.int .i64 3, .slice (some ⟨cb, 0, none⟩) 1 cc, .bool false]) 99 (by kernel_rfl) (hSra _ hD0) (fun hH => ?_)
  refine wpAnyK_take (i := 0) (v := .pointer (some ⟨bb, 0, none⟩)) rfl (by kernel_rfl) (by kernel_rfl) (by kernel_rfl) (by kernel_rfl) (by decide) (fun _ _ _ h => h) (Or.inl ⟨by rfl, fun w' hw' => by go_simp⟩) hH ?_
  try simp only [List.getElem_toArray, List.getElem_cons_succ, List.getElem_cons_zero, Act.put, List.setIfInBounds_toArray, List.set_cons_zero, List.set_cons_succ]
  refine wpAnyK_take (i := 1) (v := .pointer (some ⟨bb, 0, none⟩)) rfl (by kernel_rfl) (by kernel_rfl) (by kernel_rfl) (by kernel_rfl) (by decide) (fun _ _ _ h => h) (Or.inl ⟨by rfl, fun w' hw' => by go_simp⟩) hH ?_
  try simp only [List.getElem_toArray, List.getElem_cons_succ, List.getElem_cons_zero, Act.put, List.setIfInBounds_toArray, List.set_cons_zero, List.set_cons_succ]
  refine wpAnyK_take (i := 2) (v := .pointer (some ⟨bb, 0, none⟩)) rfl (by kernel_rfl) (by kernel_rfl) (by kernel_rfl) (by kernel_rfl) (by decide) (fun _ _ _ h => h) (Or.inl ⟨by rfl, fun w' hw' => by go_simp⟩) hH ?_
  try simp only [List.getElem_toArray, List.getElem_cons_succ, List.getElem_cons_zero, Act.put, List.setIfInBounds_toArray, List.set_cons_zero, List.set_cons_succ]
  refine wpAnyK_take (i := 3) rfl (by kernel_rfl) (by kernel_rfl) (by kernel_rfl) (by kernel_rfl) (by decide) (fun _ _ _ h => h) (yieldsIf_load_mid (by rfl) _ _ rfl (bb) (0) rfl ((tbV tP vk vr).toList) _ (fun w' hw' => hw'.1) Tryz.underlying37 rfl (by kernel_rfl)) hH ?_
  try simp only [List.getElem_toArray, List.getElem_cons_succ, List.getElem_cons_zero, Act.put, List.setIfInBounds_toArray, List.set_cons_zero, List.set_cons_succ]
  refine wpAnyK_take (i := 4) rfl (by kernel_rfl) (by kernel_rfl) (by kernel_rfl) (by kernel_rfl) (by decide) (fun _ _ _ h => h) (yieldsIf_load_mid (by rfl) _ _ rfl (w2.heap.size) (0) rfl ([Value.int .i64 3, .slice (some ⟨cb, 0, none⟩) 1 cc, .bool false]) _ (fun w' hw' => hw'.2) Tryz.underlying41 rfl (by kernel_rfl)) hH ?_
  try simp only [List.getElem_toArray, List.getElem_cons_succ, List.getElem_cons_zero, Act.put, List.setIfInBounds_toArray, List.set_cons_zero, List.set_cons_succ]
  refine wpAnyK_take (i := 6) (v := .pointer (some ⟨bb, 0, none⟩)) rfl (by kernel_rfl) (by kernel_rfl) (by kernel_rfl) (by kernel_rfl) (by decide) (fun _ _ _ h => h) (Or.inl ⟨by rfl, fun w' hw' => by go_simp⟩) hH ?_
  try simp only [List.getElem_toArray, List.getElem_cons_succ, List.getElem_cons_zero, Act.put, List.setIfInBounds_toArray, List.set_cons_zero, List.set_cons_succ]
  refine wpAnyK_take (i := 7) (v := .pointer (some ⟨bb, 0, none⟩)) rfl (by kernel_rfl) (by kernel_rfl) (by kernel_rfl) (by kernel_rfl) (by decide) (fun _ _ _ h => h) (Or.inl ⟨by rfl, fun w' hw' => by go_simp⟩) hH ?_
  try simp only [List.getElem_toArray, List.getElem_cons_succ, List.getElem_cons_zero, Act.put, List.setIfInBounds_toArray, List.set_cons_zero, List.set_cons_succ]
  refine wpAnyK_take (i := 8) (v := .pointer (some ⟨bb, 0, none⟩)) rfl (by kernel_rfl) (by kernel_rfl) (by kernel_rfl) (by kernel_rfl) (by decide) (fun _ _ _ h => h) (Or.inl ⟨by rfl, fun w' hw' => by go_simp⟩) hH ?_
  try simp only [List.getElem_toArray, List.getElem_cons_succ, List.getElem_cons_zero, Act.put, List.setIfInBounds_toArray, List.set_cons_zero, List.set_cons_succ]
  refine wpAnyK_take (i := 9) rfl (by kernel_rfl) (by kernel_rfl) (by kernel_rfl) (by kernel_rfl) (by decide) (fun _ _ _ h => h) (yieldsIf_load_mid (by rfl) _ _ rfl (bb) (0) rfl ((tbV tP vk vr).toList) _ (fun w' hw' => hw'.1) Tryz.underlying37 rfl (by kernel_rfl)) hH ?_
  try simp only [List.getElem_toArray, List.getElem_cons_succ, List.getElem_cons_zero, Act.put, List.setIfInBounds_toArray, List.set_cons_zero, List.set_cons_succ]
  refine wpAnyK_take (i := 10) rfl (by kernel_rfl) (by kernel_rfl) (by kernel_rfl) (by kernel_rfl) (by decide) (fun _ _ _ h => h) (yieldsIf_load_mid (by rfl) _ _ rfl (w2.heap.size) (0) rfl ([Value.int .i64 3, .slice (some ⟨cb, 0, none⟩) 1 cc, .bool false]) _ (fun w' hw' => hw'.2) Tryz.underlying41 rfl (by kernel_rfl)) hH ?_
  try simp only [List.getElem_toArray, List.getElem_cons_succ, List.getElem_cons_zero, Act.put, List.setIfInBounds_toArray, List.set_cons_zero, List.set_cons_succ]
  refine wpAnyK_take (i := 11) (v := u) rfl (by kernel_rfl) (by kernel_rfl) (by kernel_rfl) (by kernel_rfl) (by decide) (fun _ _ _ h => h) (Or.inl ⟨by rfl, fun w' hw' => by go_simp⟩) hH ?_
  try simp only [List.getElem_toArray, List.getElem_cons_succ, List.getElem_cons_zero, Act.put, List.setIfInBounds_toArray, List.set_cons_zero, List.set_cons_succ]
  refine wpAnyK_ready (rs := [5]) (by kernel_rfl) (by simp) ?_
  refine AllReadyK.cons rfl (fun K hK => ?_) AllReadyK.nil
  go_simp
  refine (tableof_w vk vr cb cc _ (hBd.ks.ext hD0) (hBd.rs.ext hD0) (hIx.ext hD0).cell).mono ?_
  rintro e W1 ⟨v1, rfl, hk1, hC1⟩
  have hD1 := hD0.trans hC1
  refine hK.out _ _ (hSra _ hD1) (fun hH => ?_)
  clear hK K
  try simp only [List.getElem_toArray, List.getElem_cons_succ, List.getElem_cons_zero, Act.put, List.setIfInBounds_toArray, List.set_cons_zero, List.set_cons_succ]
  refine wpAnyK_ready (rs := [12]) (by kernel_rfl) (by simp) ?_
  refine AllReadyK.cons rfl (fun K hK => ?_) AllReadyK.nil
  go_simp
  refine (ientry_w tP vk vr _ (.u (q).id) (.t (q).nm) (.i (q).sc) cb cc _ rfl (hBd.ks.ext hD1) (hBd.rs.ext hD1) (Sl.own (own_ext hU hD1)) (hIx.ext hD1).cell).mono ?_
  rintro e W2 ⟨v2, rfl, ho2, hC2⟩
  have hD2 := hD1.trans hC2
  have hv2 := fun k hk => (ho2.lt k hk).2
  refine hK.out _ _ (hSra _ hD2) (fun hH => ?_)
  clear hK K
  try simp only [List.getElem_toArray, List.getElem_cons_succ, List.getElem_cons_zero, Act.put, List.setIfInBounds_toArray, List.set_cons_zero, List.set_cons_succ]
  refine wpAnyK_ready (rs := [13]) (by kernel_rfl) (by simp) ?_
  refine AllReadyK.cons rfl (fun K hK => ?_) AllReadyK.nil
  go_simp
  refine (row_w tE v1 (.slice none 0 0) v2 (rE q) _ (rE_ok hq) (hk1.ext hC2) (.inl ⟨rfl, rfl⟩) (Sl.own ho2) hv2 (hGv.chg hD2 (by simp)) (Nat.le_trans (prE_size hq).2.1 (by decide)) (by have := (prE_size hq).2.2; show (prE _).2.size ≤ 40; omega)).mono ?_
  rintro e W3 ⟨rfl, hC3⟩
  have hD3 := hD2.trans hC3
  refine hK.out _ _ (hSra _ hD3) (fun hH => ?_)
  clear hK K
  try simp only [List.getElem_toArray, List.getElem_cons_succ, List.getElem_cons_zero, Act.put, List.setIfInBounds_toArray, List.set_cons_zero, List.set_cons_succ]
  refine wpAnyK_take (i := 14) (v := .tuple #[.string (rkey tE (rE q)), .string (rval tE (rE q)), .int .i64 0]) rfl (by kernel_rfl) (by kernel_rfl) (by kernel_rfl) (by kernel_rfl) (by decide) (fun _ _ _ h => h) (Or.inl ⟨by rfl, fun w' hw' => by go_simp⟩) hH ?_
  try simp only [List.getElem_toArray, List.getElem_cons_succ, List.getElem_cons_zero, Act.put, List.setIfInBounds_toArray, List.set_cons_zero, List.set_cons_succ]
  refine wpAnyK_take (i := 15) (v := .string (rkey tE (rE q))) rfl (by kernel_rfl) (by kernel_rfl) (by kernel_rfl) (by kernel_rfl) (by decide) (fun _ _ _ h => h) (Or.inl ⟨by rfl, fun w' hw' => by go_simp⟩) hH ?_
  try simp only [List.getElem_toArray, List.getElem_cons_succ, List.getElem_cons_zero, Act.put, List.setIfInBounds_toArray, List.set_cons_zero, List.set_cons_succ]
  refine wpAnyK_take (i := 16) (v := .string (rval tE (rE q))) rfl (by kernel_rfl) (by kernel_rfl) (by kernel_rfl) (by kernel_rfl) (by decide) (fun _ _ _ h => h) (Or.inl ⟨by rfl, fun w' hw' => by go_simp⟩) hH ?_
  try simp only [List.getElem_toArray, List.getElem_cons_succ, List.getElem_cons_zero, Act.put, List.setIfInBounds_toArray, List.set_cons_zero, List.set_cons_succ]
  refine wpAnyK_take (i := 17) (v := .int .i64 0) rfl (by kernel_rfl) (by kernel_rfl) (by kernel_rfl) (by kernel_rfl) (by decide) (fun _ _ _ h => h) (Or.inl ⟨by rfl, fun w' hw' => by go_simp⟩) hH ?_
  try simp only [List.getElem_toArray, List.getElem_cons_succ, List.getElem_cons_zero, Act.put, List.setIfInBounds_toArray, List.set_cons_zero, List.set_cons_succ]
  refine wpAnyK_take (i := 18) (v := .string (rkey tE (rE q))) rfl (by kernel_rfl) (by kernel_rfl) (by kernel_rfl) (by kernel_rfl) (by decide) (fun _ _ _ h => h) (Or.inl ⟨by rfl, fun w' hw' => by go_simp⟩) hH ?_
  try simp only [List.getElem_toArray, List.getElem_cons_succ, List.getElem_cons_zero, Act.put, List.setIfInBounds_toArray, List.set_cons_zero, List.set_cons_succ]
  refine wpAnyK_take (i := 19) (v := .string (rval tE (rE q))) rfl (by kernel_rfl) (by kernel_rfl) (by kernel_rfl) (by kernel_rfl) (by decide) (fun _ _ _ h => h) (Or.inl ⟨by rfl, fun w' hw' => by go_simp⟩) hH ?_
  try simp only [List.getElem_toArray, List.getElem_cons_succ, List.getElem_cons_zero, Act.put, List.setIfInBounds_toArray, List.set_cons_zero, List.set_cons_succ]
  refine wpAnyK_take (i := 20) (v := .int .i64 0) rfl (by kernel_rfl) (by kernel_rfl) (by kernel_rfl) (by kernel_rfl) (by decide) (fun _ _ _ h => h) (Or.inl ⟨by rfl, fun w' hw' => by go_simp⟩) hH ?_
  try simp only [List.getElem_toArray, List.getElem_cons_succ, List.getElem_cons_zero, Act.put, List.setIfInBounds_toArray, List.set_cons_zero, List.set_cons_succ]
  refine wpAnyK_done (by kernel_rfl) ?_ _
  have hm4 := hm2.ext (hA.trans hD3)
  have hx4 : ((prE q).1, (prE q).2) ∈ rmv (prP q).1 L2 := (rmv_mem _ _ _).2 ⟨hx2, fun e => PE_ne _ _ e.symm⟩
  go_wp2_with (first
    | (go_at_call 86; refine (mdelete_w mb2 base2 v3 _ (prE q).1 (prE q).2 _ hm4 y0 (Nat.le_trans y1 (by decide)) hx4).mono ?_; rintro e w5 ⟨v5, rfl, hm5, hC5⟩))
  rw [rounds_succ]
  go_wp2
  go_end0
  exact ⟨v5, rfl, hm5, (hCC2.trans (hA.trans hD3)).on hC5 (fun i hi => .inr (by rcases List.mem_cons.1 hi with hi | hi; omega; have := (hm4.o.lt i (by simpa using hi)).1; omega))⟩
end

end Go.Proofs.YtpcaadipejnllaaGreatDoor

/- The way to a leaf. -/
set_option linter.unusedVariables false
set_option linter.unusedSimpArgs false
namespace Go.Proofs.YtpcaadipejnllaaGreatDoor
open Go.RowKit

theorem wpList_append_i {w : World} {ops : Array Oper} {rest : List Oper} {o : Oper} {a : Act} {Q : Exit → Act → World → Prop} (hgd : o.guard = none) (s x : Operand)
    (ho : o.op = .call { callee := .builtin .append, args := #[s, x], argTypes := #[39, 39] })
    (base : Nat) (v : Value) (L : List Int) (hs : a.eval s = v) (hown : w.ownsRow base 3 1 v L.length (ints L)) (b : Nat) (z : Int) (hx : a.eval x = .slice (some ⟨b, 0, none⟩) 1 1) (hb : Blk w b 3 #[.int .i64 z]) (hL : L.length ≤ 2000) (hbase : base ≤ w.heap.size)
    (h : ∀ v' w', w'.ownsRow base 3 1 v' (L ++ [z]).length (ints (L ++ [z])) → Chg v.ownBlock.toList w w' → wpList Tryz.prog ops Q rest (a.put o.dst v') w') : wpList Tryz.prog ops Q (o :: rest) a w := by
  obtain ⟨i0, hi, hz0, hz1, hz2⟩ := info_parts info3
  refine wpList_append_own w hgd s x 39 ho base 3 i0 _ 1 8 Tryz.underlying39 hi hz0 hz1 hz2 rfl (by decide) v L.length (ints L) hs hown ⟨b, 0, none⟩ 1 1 [.int .i64 z] hx rfl (fun j u hj => ?_) (by simp [Value.oneCell']) (by unfold maxLen; omega) (by omega) hbase (fun v' w' h3 h4 _ => h v' w' (by rw [List.length_append, ints_append]; exact h3) (Chg.of_grown h4))
  rw [add_mk, Nat.zero_add, hb.cell, ← Array.getElem?_toList]
  exact hj

theorem Mid.under {fr : Nat} {pgs : Nat → List Nat} {A B : List Lf} {z : Lf} {ex fl : List Nat} (H : Mid fr pgs (A ++ ([z] ++ B)) ex fl) {key : ByteArray} (hlo : cmpS z.low key ≤ 0) : ∀ y ∈ flat A, cmpS y.1 key < 0 := by
  obtain ⟨hA, hzB⟩ := Lvs.app.1 H.lvs
  have hlows := H.lows
  cases A with
  | nil => simp [flat]
  | cons a A =>
    have hzl : 0 < z.low.size := hlows z (by simp)
    have := (hA.below (fun y hy => hlows y (by simp at hy ⊢; exact .inl hy)) hzl).1
    exact fun y hy => cmp_lt_le (this y hy) hlo

def PathTo (ls : List Lf) (key : ByteArray) (w : World) (e : Ending) (w' : World) : Prop :=
  ∃ (s o k c : Nat) (A B : List Lf) (z : Lf), e = .returned (.tuple #[.slice (some ⟨s, o, none⟩) (k + 1) c, .int .i64 0]) ∧ k ≤ 1 ∧ k + 1 ≤ c ∧ c ≤ maxLen ∧ w'.cell? ⟨s, o + k, none⟩ = some (.int .i64 z.p) ∧ ls = A ++ ([z] ++ B) ∧ (∀ y ∈ flat A, cmpS y.1 key < 0) ∧ Chg [] w w'

section
variable (tb ba bm bw fr rt : Nat) (pgs : Nat → List Nat) (ls : List Lf) (fl : List Nat) (key : ByteArray) (w : World)
set_option maxRecDepth 100000 in
set_option maxHeartbeats 1000000 in
theorem path_one (x : Lf) (hls : ls = [x]) (hrt : rt = x.p) (hT : Blk w tb 78 #[.pointer (some ⟨ba, 0, none⟩), .int .i64 (flat ls).length]) (hA : ArS w ba bm bw fr rt pgs) (hP : TreeP fr rt pgs ls fl) (hM : Mid fr pgs ls [] fl) :
    Calls Tryz.prog 123 #[.pointer (some ⟨tb, 0, none⟩), .string key] w (PathTo ls key w) := by
  have hTS : TreeS w tb (flat ls) := ⟨ba, bm, bw, fr, rt, pgs, ls, fl, hT, hA, hP, rfl⟩
  obtain ⟨r1, r2⟩ := hM.rng (x := x) (by rw [hls]; simp)
  have hx := hM
  rw [hls] at hx
  have hxl := (Mid.fence (A := []) (B := []) (x := x) hx).1.is
  have hlP : (pgs x.p).length = 128 := hxl.head.len
  have hde := fun w hA => descend_one ba bm bw fr x.p pgs key _ w hA r1 r2 hxl rfl
  rw [hrt] at hA
  have Hls := Lib.hid hls
  have Hde := Lib.hid hde
  clear hls hde hrt hx
  have t0 : w.cell? ⟨tb, 0, none⟩ = some (.pointer (some ⟨ba, 0, none⟩)) := hT.cell 0
  go_enter Tryz.func123, Tryz.ntmps123
  go_wp2_with (first
    | (go_at_call 51; refine (tree_none_w tb _ _ hTS).mono ?_; rintro e w9 ⟨rfl, rfl⟩)
    | (go_at_call 114; refine (Hde.out _ hA).mono ?_; rintro e w1 ⟨v1, rfl, hw1, hC1⟩; obtain ⟨ss, so, sc, rfl, hss, hsx⟩ := own_at hw1 (by omega)))
  have Hst0 := Lib.hid (show ∀ W, Chg [] w1 W → W.rangeAt ss so (stepC x.p 0 (pgs x.p)) from fun W hW j u hj => by
    have hjl := (List.getElem?_eq_some_iff.1 hj).1
    rw [stepC_len _ _ _ hlP] at hjl
    rw [hW.cell hss (by simp), hsx j (by omega)]; exact hj)
  clear hsx
  refine wp_loop_rounds 2 ?_
  rw [rounds_succ]
  obtain ⟨vo0, hvo0⟩ : ∃ v, v = Value.slice none 0 0 := ⟨_, rfl⟩
  have ho0 : w1.ownsRow w1.heap.size 3 1 vo0 ([] : List Int).length (ints []) := by rw [hvo0]; exact World.ownsRow_nil _ _ _ _
  have hCr : Chg [] w1 w1 := Chg.refl _ _
  rw [← hvo0]
  clear hvo0
  have hr0 : w1.rangeAt ss (so) (stepC x.p 0 (pgs x.p)) := Hst0.out _ hCr
  obtain ⟨hi1_0, hi2_0, hi3_0⟩ := stepC_info (x.p) (0) (pgs x.p) hlP
  obtain ⟨cs0, hcs0⟩ : ∃ cs, cs = stepC (x.p) (0) (pgs x.p) := ⟨_, rfl⟩
  have hal0 := stepC_all (x.p) (0) (pgs x.p)
  have hc00 : (cs0.toArray)[0]? = some (.int .i64 (x.p : Nat)) := by rw [hcs0]; rfl
  rw [← hcs0] at hr0 hi1_0 hi2_0 hi3_0 hal0
  clear hcs0
  go_wp2_with (first
    | (refine wpList_load_rng (by rfl) 197 (.tmp 20) rfl ss (so) rfl _ _ hr0 Tryz.underlying197 rfl hi2_0 ?_)
    | (refine wpList_store_blk rfl 197 (.tmp 8) (.tmp 21) rfl w1.heap.size rfl cs0.toArray rfl 197 _ (Blk.new w1 197 _) hi1_0 hi3_0 hal0 ?_; intro wa0 hCa0 hsa0 hBa0; have hCw0 : Chg [] w1 wa0 := (hCr.alloc _).on hCa0 (fun i hi => .inr (by simp at hi; have := hCr.size; omega)); have hoa0 := own_chg (ho0.alloc (.cells Tryz.zeroCells197 197)) hCa0 (fun k hk hm => by have := (ho0.lt k hk).2; simp at hm; omega); have hc10 := hBa0.cell 0; rw [hc00] at hc10; clear hsa0)
    | (at_builtin; go_loud (refine wpList_append_i rfl _ _ rfl w1.heap.size vo0 ([]) rfl (hoa0.alloc _) _ (x.p : Nat) rfl (Blk.new _ 3 _) (by simp) (by have := hCw0.size; simp; omega) ?_); intro vn0 wb0 hob0 hCb0))
  have hCn0 : Chg [] w1 wb0 := (hCw0.alloc _).on hCb0 (fun i hi => .inr (ho0.lt i (by simpa using hi)).1)
  rw [rounds_succ]
  go_wp2
  go_ret2
  obtain ⟨ps, po, pc, rfl, hps, hpx⟩ := own_at hob0 (by simp)
  obtain ⟨_, _, e9, hc1, hc2⟩ := (Sl.own hob0).form
  injection e9 with _ _ e9
  subst e9
  exact ⟨ps, po, 0, pc, [], [], x, rfl, by omega, hc1, hc2, hpx 0 (by simp), Hls.out, by simp [flat], hC1.trans hCn0⟩

set_option maxRecDepth 100000 in
set_option maxHeartbeats 1000000 in
theorem path_two (hn : 2 ≤ ls.length) (hT : Blk w tb 78 #[.pointer (some ⟨ba, 0, none⟩), .int .i64 (flat ls).length]) (hA : ArS w ba bm bw fr rt pgs) (hP : TreeP fr rt pgs ls fl) (hM : Mid fr pgs ls [rt] fl) (hPr : IsPage (pgs rt) (rootG ls)) :
    Calls Tryz.prog 123 #[.pointer (some ⟨tb, 0, none⟩), .string key] w (PathTo ls key w) := by
  have hTS : TreeS w tb (flat ls) := ⟨ba, bm, bw, fr, rt, pgs, ls, fl, hT, hA, hP, rfl⟩
  obtain ⟨hex1, hex2, hrt1, hrt2⟩ := hM.exn
  obtain ⟨x0, r0, hls0, hlow0⟩ := hM.low0
  have hm0 : ∃ x, (rootG ls).l[0]? = some x ∧ cmpS x.1 key ≤ 0 := ⟨(x0.low, numS x0.p), by rw [hls0]; rfl, by rw [hlow0]; exact cmp_empty_le _⟩
  have hrng : ∀ y ∈ ls, 1 ≤ y.p ∧ y.p ≤ 40 := fun y hy => hM.rng hy
  have hde := fun w hA => descend_two ba bm bw fr rt pgs key (rootG ls) w hA hrt1 hrt2 hPr (by show (1 : Nat) ≠ 0; omega) hm0 (fun i q x hx hq hq2 => by
    obtain ⟨A, z, B, hABz, _, hzp, _⟩ := seps_leaf hrng hx hq hq2
    have hz := hrng z (by rw [hABz]; simp)
    rw [hzp] at hz
    have hz2 := hM
    rw [hABz] at hz2
    have := (Mid.fence (x := z) hz2).1.is
    rw [hzp] at this
    exact ⟨hz.1, hz.2, _, this, rfl⟩)
  have hlR : (pgs rt).length = 128 := hPr.head.len
  have Hde := Lib.hid hde
  have Hrng := Lib.hid hrng
  clear hde hrng hm0 hls0 hlow0
  have t0 : w.cell? ⟨tb, 0, none⟩ = some (.pointer (some ⟨ba, 0, none⟩)) := hT.cell 0
  go_enter Tryz.func123, Tryz.ntmps123
  go_wp2_with (first
    | (go_at_call 51; refine (tree_none_w tb _ _ hTS).mono ?_; rintro e w9 ⟨rfl, rfl⟩)
    | (go_at_call 114; refine (Hde.out _ hA).mono ?_; rintro e w1 ⟨i, q, xr, v1, rfl, hxr, hxq, hq2, hD, hw1, hC1⟩; obtain ⟨ss, so, sc, rfl, hss, hsx⟩ := own_at hw1 (by omega)))
  obtain ⟨A, z, B, hABz, hAi, hzp, hxz⟩ := seps_leaf Hrng.out hxr hxq hq2
  have hlo : cmpS z.low key ≤ 0 := by rw [← hxz]; exact hD.lo xr hxr
  have hMz := hM
  rw [hABz] at hMz
  have hund := hMz.under hlo
  have hlQ : (pgs q).length = 128 := by have := (Mid.fence (x := z) hMz).1.is; rw [hzp] at this; exact this.head.len
  have HAB := Lib.hid hABz
  have Hzp := Lib.hid hzp
  have Hund := Lib.hid hund
  have hl1 := stepC_len rt i (pgs rt) hlR
  have Hst0 := Lib.hid (show ∀ W, Chg [] w1 W → W.rangeAt ss so (stepC rt i (pgs rt)) from fun W hW j u hj => by
    have hjl := (List.getElem?_eq_some_iff.1 hj).1
    rw [hW.cell hss (by simp), hsx j (by omega), List.getElem?_append_left (by omega)]; exact hj)
  have Hst1 := Lib.hid (show ∀ W, Chg [] w1 W → W.rangeAt ss (so + 130) (stepC q 0 (pgs q)) from fun W hW j u hj => by
    have hjl := (List.getElem?_eq_some_iff.1 hj).1
    rw [stepC_len _ _ _ hlQ] at hjl
    rw [Nat.add_assoc, hW.cell hss (by simp), hsx (130 + j) (by omega), List.getElem?_append_right (by omega), hl1, Nat.add_sub_cancel_left]; exact hj)
  clear hsx hABz hAi hzp hxz hxr hxq hD hlo hund hMz hl1
  refine wp_loop_rounds 3 ?_
  rw [rounds_succ]
  obtain ⟨vo0, hvo0⟩ : ∃ v, v = Value.slice none 0 0 := ⟨_, rfl⟩
  have ho0 : w1.ownsRow w1.heap.size 3 1 vo0 ([] : List Int).length (ints []) := by rw [hvo0]; exact World.ownsRow_nil _ _ _ _
  have hCr : Chg [] w1 w1 := Chg.refl _ _
  rw [← hvo0]
  clear hvo0
  have hr0 : w1.rangeAt ss (so) (stepC rt i (pgs rt)) := Hst0.out _ hCr
  obtain ⟨hi1_0, hi2_0, hi3_0⟩ := stepC_info (rt) (i) (pgs rt) hlR
  obtain ⟨cs0, hcs0⟩ : ∃ cs, cs = stepC (rt) (i) (pgs rt) := ⟨_, rfl⟩
  have hal0 := stepC_all (rt) (i) (pgs rt)
  have hc00 : (cs0.toArray)[0]? = some (.int .i64 (rt : Nat)) := by rw [hcs0]; rfl
  rw [← hcs0] at hr0 hi1_0 hi2_0 hi3_0 hal0
  clear hcs0
  go_wp2_with (first
    | (refine wpList_load_rng (by rfl) 197 (.tmp 20) rfl ss (so) rfl _ _ hr0 Tryz.underlying197 rfl hi2_0 ?_)
    | (refine wpList_store_blk rfl 197 (.tmp 8) (.tmp 21) rfl w1.heap.size rfl cs0.toArray rfl 197 _ (Blk.new w1 197 _) hi1_0 hi3_0 hal0 ?_; intro wa0 hCa0 hsa0 hBa0; have hCw0 : Chg [] w1 wa0 := (hCr.alloc _).on hCa0 (fun i hi => .inr (by simp at hi; have := hCr.size; omega)); have hoa0 := own_chg (ho0.alloc (.cells Tryz.zeroCells197 197)) hCa0 (fun k hk hm => by have := (ho0.lt k hk).2; simp at hm; omega); have hc10 := hBa0.cell 0; rw [hc00] at hc10; clear hsa0)
    | (at_builtin; go_loud (refine wpList_append_i rfl _ _ rfl w1.heap.size vo0 ([]) rfl (hoa0.alloc _) _ (rt : Nat) rfl (Blk.new _ 3 _) (by simp) (by have := hCw0.size; simp; omega) ?_); intro vn0 wb0 hob0 hCb0))
  have hCn0 : Chg [] w1 wb0 := (hCw0.alloc _).on hCb0 (fun i hi => .inr (ho0.lt i (by simpa using hi)).1)
  rw [rounds_succ]
  obtain ⟨vo1, rfl⟩ : ∃ v, v = vn0 := ⟨_, rfl⟩
  have hr1 : wb0.rangeAt ss (so + 130) (stepC q 0 (pgs q)) := Hst1.out _ hCn0
  obtain ⟨hi1_1, hi2_1, hi3_1⟩ := stepC_info (q) (0) (pgs q) hlQ
  obtain ⟨cs1, hcs1⟩ : ∃ cs, cs = stepC (q) (0) (pgs q) := ⟨_, rfl⟩
  have hal1 := stepC_all (q) (0) (pgs q)
  have hc01 : (cs1.toArray)[0]? = some (.int .i64 (q : Nat)) := by rw [hcs1]; rfl
  rw [← hcs1] at hr1 hi1_1 hi2_1 hi3_1 hal1
  clear hcs1
  go_wp2_with (first
    | (refine wpList_load_rng (by rfl) 197 (.tmp 20) rfl ss (so + 130) rfl _ _ hr1 Tryz.underlying197 rfl hi2_1 ?_)
    | (refine wpList_store_blk rfl 197 (.tmp 8) (.tmp 21) rfl wb0.heap.size rfl cs1.toArray rfl 197 _ (Blk.new wb0 197 _) hi1_1 hi3_1 hal1 ?_; intro wa1 hCa1 hsa1 hBa1; have hCw1 : Chg [] w1 wa1 := (hCn0.alloc _).on hCa1 (fun i hi => .inr (by simp at hi; have := hCn0.size; omega)); have hoa1 := own_chg (hob0.alloc (.cells Tryz.zeroCells197 197)) hCa1 (fun k hk hm => by have := (hob0.lt k hk).2; simp at hm; omega); have hc11 := hBa1.cell 0; rw [hc01] at hc11; clear hsa1)
    | (at_builtin; go_loud (refine wpList_append_i rfl _ _ rfl w1.heap.size vo1 ([] ++ [(rt : Int)]) rfl (hoa1.alloc _) _ (q : Nat) rfl (Blk.new _ 3 _) (by simp) (by have := hCw1.size; simp; omega) ?_); intro vn1 wb1 hob1 hCb1))
  have hCn1 : Chg [] w1 wb1 := (hCw1.alloc _).on hCb1 (fun i hi => .inr (hob0.lt i (by simpa using hi)).1)
  rw [rounds_succ]
  go_wp2
  go_ret2
  obtain ⟨ps, po, pc, rfl, hps, hpx⟩ := own_at hob1 (by simp)
  obtain ⟨_, _, e9, hc1, hc2⟩ := (Sl.own hob1).form
  injection e9 with _ _ e9
  subst e9
  exact ⟨ps, po, 1, pc, A, B, z, rfl, by omega, hc1, hc2, by rw [hpx 1 (by simp), Hzp.out]; rfl, HAB.out, Hund.out, hC1.trans hCn1⟩

theorem path_w (hT : Blk w tb 78 #[.pointer (some ⟨ba, 0, none⟩), .int .i64 (flat ls).length]) (hA : ArS w ba bm bw fr rt pgs) (hP : TreeP fr rt pgs ls fl) :
    Calls Tryz.prog 123 #[.pointer (some ⟨tb, 0, none⟩), .string key] w (PathTo ls key w) := by
  cases id hP with
  | one x e r m => exact path_one tb ba bm bw fr rt pgs ls fl key w x e r hT hA hP m
  | many n m p l => exact path_two tb ba bm bw fr rt pgs ls fl key w n hT hA hP m p
end

end Go.Proofs.YtpcaadipejnllaaGreatDoor
