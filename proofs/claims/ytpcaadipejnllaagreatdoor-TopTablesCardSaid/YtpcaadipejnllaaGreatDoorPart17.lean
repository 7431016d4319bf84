/- A region that draws its order and ends in a store: what its loads read need not stand behind the store. -/
import Derived.Test.YtpcaadipejnllaaGreatDoorPart08
import Derived.Test.YtpcaadipejnllaaGreatDoorPart13
import Derived.Test.YtpcaadipejnllaaGreatDoorPart10
import Derived.Test.YtpcaadipejnllaaGreatDoorPart16
import Derived.Test.YtpcaadipejnllaaGreatDoorPart05

set_option linter.unusedVariables false
set_option linter.unusedSimpArgs false
namespace Go.Proofs.YtpcaadipejnllaaGreatDoor
open Go.RowKit

section
variable {P : Program} {ops : Array Oper} {Q : Exit → Act → World → Prop} {md : Region.Mode} {S : World → Prop} {k : Nat}

/-- Whatever order is picked, and S holds behind every operation that is carried out, but for number k. -/
def wpAnyK (P : Program) (md : Region.Mode) (ops : Array Oper) (Q : Exit → Act → World → Prop) (S : World → Prop) (k : Nat) : Nat → Array Bool → Act → World → Prop
  | 0, listed, a, w => Region.ready md ops listed = [] ∧ Q .normal a w
  | fuel + 1, listed, a, w =>
    (Region.ready md ops listed = [] → Q .normal a w) ∧
    ∀ i ∈ Region.ready md ops listed, wpOp P ops Q i (fun a' w' => (i ≠ k → S w') ∧ wpAnyK P md ops Q S k fuel (listed.setIfInBounds i true) a' w') a w

theorem wpAny_of_K : ∀ (fuel : Nat) (listed : Array Bool) (a : Act) (w : World), wpAnyK P md ops Q S k fuel listed a w → wpAny P md ops Q fuel listed a w
  | 0, _, _, _, h => h
  | fuel + 1, _, _, _, h => ⟨h.1, fun i hi => wpOp_mono (fun a' w' h' => wpAny_of_K fuel _ a' w' h'.2) (h.2 i hi)⟩

theorem wpAnyK_first {i : Nat} {oi : Oper} {v : Value} (hi : ops[i]? = some oi) (hsel : ∀ (j : Nat) (o : Oper) cs b, ops[j]? = some o → o.op ≠ .select cs b)
    (hQ : ∀ c a w, Q (.panic c) (a.put oi.dst v) w → Q (.panic c) a w) (hk : ∀ o, ops[k]? = some o → ∃ e ∈ o.after, Region.binds md e = true ∧ e.on = i) (hik : i ≠ k) :
    ∀ (fuel : Nat) (listed : Array Bool) (a : Act) (w : World),
      (∀ j oj, ops[j]? = some oj → j ≠ i → listed.getD j true = false → (∀ e ∈ oj.after, Region.binds md e = true → e.on ≠ i) → oi.apart ops oj = true) →
      i ∈ Region.ready md ops listed → YieldsIf P ops S oi v a → S w →
      wpAnyK P md ops Q S k fuel (listed.setIfInBounds i true) (a.put oi.dst v) w → wpAnyK P md ops Q S k (fuel + 1) listed a w := by
  intro fuel
  induction fuel with
  | zero =>
    intro listed a w _ hr hy hS H
    refine ⟨fun h => (by rw [h] at hr; cases hr), fun j hj => ?_⟩
    by_cases hji : j = i
    · subst hji; exact hy.wpOp hi hS ⟨fun _ => hS, H⟩
    · have := ready_mono hj hji
      rw [H.1] at this
      cases this
  | succ fuel ih =>
    intro listed a w hfree hr hy hS H
    refine ⟨fun h => (by rw [h] at hr; cases hr), fun j hj => ?_⟩
    by_cases hji : j = i
    · subst hji; exact hy.wpOp hi hS ⟨fun _ => hS, H⟩
    · have h1 := H.2 j (ready_mono hj hji)
      obtain ⟨hjun, oj, hoj, hall⟩ := mem_ready.1 hj
      have hnot : ∀ e ∈ oj.after, Region.binds md e = true → e.on ≠ i := fun e he hb heq => by
        have h1 := hall e he hb
        have h0 := (mem_ready.1 hr).1
        rw [heq] at h1
        rcases Nat.lt_or_ge i listed.size with h' | h'
        · simp [h'] at h0 h1; rw [h0] at h1; cases h1
        · simp [Array.getElem?_eq_none h'] at h1
      have hjk : j ≠ k := fun e => by
        subst e
        obtain ⟨e, he, hb, hon⟩ := hk oj hoj
        exact hnot e he hb hon
      have h2 := wpOp_putIf hoj (hfree j oj hoj hji hjun hnot) (fun cs b => hsel i oi cs b hi) (fun cs b => hsel j oj cs b hoj) hQ hy h1
      have hfree' : ∀ k ok, ops[k]? = some ok → k ≠ i → (listed.setIfInBounds j true).getD k true = false →
          (∀ e ∈ ok.after, Region.binds md e = true → e.on ≠ i) → oi.apart ops ok = true := fun k ok hk hki hun hno => by
        refine hfree k ok hk hki ?_ hno
        by_cases hjk : j = k
        · subst hjk; exact hjun
        · rw [getD_set_ne true hjk] at hun; exact hun
      refine wpOp_mono (fun a' w' h3 => ⟨h3.2.1, ih (listed.setIfInBounds j true) a' w' hfree' (ready_mono hr (Ne.symm hji)) h3.1 (h3.2.1 hjk) ?_⟩) h2
      rw [Array.setIfInBounds_comm _ _ hji]
      exact h3.2.2

/-- Number k waits for number i. -/
def waits (md : Region.Mode) (ops : Array Oper) (k i : Nat) : Bool := match ops[k]? with | some o => o.after.toList.any fun e => Region.binds md e && decide (e.on = i) | none => true
theorem waits_spec {i : Nat} (h : waits md ops k i = true) : ∀ o, ops[k]? = some o → ∃ e ∈ o.after, Region.binds md e = true ∧ e.on = i := fun o ho => by
  unfold waits at h
  rw [ho] at h
  obtain ⟨e, he, h2⟩ := List.any_eq_true.1 h
  simp only [Bool.and_eq_true, decide_eq_true_eq] at h2
  exact ⟨e, by simpa using he, h2.1, h2.2⟩

theorem wpAnyK_take {i : Nat} {oi : Oper} {v : Value} {fuel : Nat} {listed : Array Bool} {a : Act} {w : World} (hi : ops[i]? = some oi)
    (hs : Region.noSelect ops = true) (hf : Region.free md ops listed i = true) (hr : (Region.ready md ops listed).contains i = true) (hw : waits md ops k i = true) (hik : i ≠ k)
    (hQ : ∀ c a w, Q (.panic c) (a.put oi.dst v) w → Q (.panic c) a w) (hy : YieldsIf P ops S oi v a) (hS : S w)
    (h : wpAnyK P md ops Q S k fuel (listed.setIfInBounds i true) (a.put oi.dst v) w) : wpAnyK P md ops Q S k (fuel + 1) listed a w :=
  wpAnyK_first hi (Region.noSelect_spec hs) hQ (waits_spec hw) hik fuel listed a w (Region.free_spec hi hf) (by simpa using hr) hy hS h

theorem wpAnyK_done {listed : Array Bool} {a : Act} {w : World} (hr : Region.ready md ops listed = []) (h : Q .normal a w) :
    ∀ fuel, wpAnyK P md ops Q S k fuel listed a w
  | 0 => ⟨hr, h⟩
  | _ + 1 => ⟨fun _ => h, by rw [hr]; simp⟩

def AllReadyK (P : Program) (md : Region.Mode) (ops : Array Oper) (Q : Exit → Act → World → Prop) (S : World → Prop) (k : Nat) (fuel : Nat) (listed : Array Bool) (a : Act) (w : World) (rs : List Nat) : Prop :=
  ∀ i ∈ rs, wpOp P ops Q i (fun a' w' => (i ≠ k → S w') ∧ wpAnyK P md ops Q S k fuel (listed.setIfInBounds i true) a' w') a w
theorem AllReadyK.nil {fuel : Nat} {listed : Array Bool} {a : Act} {w : World} : AllReadyK P md ops Q S k fuel listed a w [] := fun _ h => by cases h
theorem AllReadyK.cons {fuel : Nat} {listed : Array Bool} {a : Act} {w : World} {i : Nat} {o : Oper} {rs : List Nat} (ho : ops[i]? = some o)
    (h : ∀ K' : Act → World → Prop, Shut (∀ a w, S w → (S w → wpAnyK P md ops Q S k fuel (listed.setIfInBounds i true) a w) → K' a w) → if Region.wanted o (yielded ops a.tmps) = true then Oper.wp P o a w K' Q else K' (a.put o.dst undef) w)
    (hs : AllReadyK P md ops Q S k fuel listed a w rs) : AllReadyK P md ops Q S k fuel listed a w (i :: rs) := fun j hj => by
  rcases List.mem_cons.1 hj with rfl | hj
  · exact wpOp_step ho (fun K' hK => h K' (fun a w hS hW => hK a w ⟨fun _ => hS, hW hS⟩))
  · exact hs j hj
/-- The last one. -/
theorem AllReadyK.last {fuel : Nat} {listed : Array Bool} {a : Act} {w : World} {o : Oper} (ho : ops[k]? = some o)
    (h : ∀ K' : Act → World → Prop, Shut (∀ a w, wpAnyK P md ops Q S k fuel (listed.setIfInBounds k true) a w → K' a w) → if Region.wanted o (yielded ops a.tmps) = true then Oper.wp P o a w K' Q else K' (a.put o.dst undef) w) :
    AllReadyK P md ops Q S k fuel listed a w [k] := fun j hj => by
  obtain rfl : j = k := by simpa using hj
  exact wpOp_step ho (fun K' hK => h K' (fun a w hW => hK a w ⟨fun e => absurd rfl e, hW⟩))
theorem wpAnyK_ready {rs : List Nat} {fuel : Nat} {listed : Array Bool} {a : Act} {w : World} (hr : Region.ready md ops listed = rs) (hne : rs ≠ [])
    (h : AllReadyK P md ops Q S k fuel listed a w rs) : wpAnyK P md ops Q S k (fuel + 1) listed a w := ⟨fun h0 => absurd (hr ▸ h0) hne, hr ▸ h⟩
theorem wp_region_K {id : Nat} {a : Act} {w : World} (k : Nat) (hm : P.follows .mixedOrders = true) (hS : S w.drew)
    (h : S w.drew → wpAnyK P .any ops Q S k ops.size (Array.replicate ops.size false) a w.drew) : (Code.region id ops true).wp P Q a w :=
  wp_region_any hm (wpAny_of_K _ _ _ _ (h hS))
end

section
variable {o : Oper} {a : Act} {w : World} {K : Act → World → Prop} {Q : Exit → Act → World → Prop}
/-- A cell loaded. -/
theorem op_load_one (ty : TypeId) (x : Operand) (ho : o.op = .load ty x) (b k : Nat) (hx : a.eval x = .pointer (some ⟨b, k, none⟩)) (z : Value) (hc : w.cell? ⟨b, k, none⟩ = some z) (hagg : ∀ w, (isAgg ty).run Tryz.prog w = .ok false w)
    (h : K (a.put o.dst z) w) : o.wp Tryz.prog a w K Q := by
  unfold Oper.wp execOp
  simp [ho, hx, Instr.loadAt, Instr.sureAddr, loadVar, hagg, Sem.run_bind, run_load, hc, Result.andThen]
  exact h
end

end Go.Proofs.YtpcaadipejnllaaGreatDoor

/- The plain law of the two tables: bytes of cells in their order, pairs in sorted lists. -/
set_option linter.unusedVariables false
set_option linter.unusedSimpArgs false
namespace Go.Proofs.YtpcaadipejnllaaGreatDoor
open Go.RowKit

/-! ### the bytes of cells -/
theorem cb_app (a x y : List UInt8) : Lib.compareBytes (a ++ x) (a ++ y) = Lib.compareBytes x y := by
  induction a with
  | nil => rfl
  | cons b a ih => rw [List.cons_append, List.cons_append, cb_cons, if_neg (by rw [u8_lt]; omega), if_neg (by rw [u8_lt]; omega), ih]
theorem ofNat_lt {a b : Nat} (ha : a < 256) (hb : b < 256) : (UInt8.ofNat a < UInt8.ofNat b) ↔ a < b := by
  rw [u8_lt]; simp; omega
theorem ofNat_eq {a b : Nat} (ha : a < 256) (hb : b < 256) (h : UInt8.ofNat a = UInt8.ofNat b) : a = b := by
  have := congrArg UInt8.toNat h
  simp at this; omega
theorem digs_inj {n m : Nat} (hn : n < 65536) (hm : m < 65536) (h : digs n = digs m) : n = m := by
  unfold digs at h
  split at h <;> split at h <;> (try split at h) <;> (try split at h) <;> simp at h <;> (try omega)
  · have := congrArg UInt8.toNat h; simp at this; omega
  · obtain ⟨h1, h2⟩ := h
    have h1 := congrArg UInt8.toNat h1
    have h2 := congrArg UInt8.toNat h2
    simp at h1 h2
    omega
theorem digs_0 : digs 0 = [] := rfl
theorem digs_1 {n : Nat} (h0 : n ≠ 0) (h : n < 256) : digs n = [UInt8.ofNat n] := by unfold digs; rw [if_neg h0, if_pos h]
theorem digs_2 {n : Nat} (h : ¬ n < 256) : digs n = [UInt8.ofNat (n / 256), UInt8.ofNat (n % 256)] := by unfold digs; rw [if_neg (by omega), if_neg h]
theorem digs_lt {n m : Nat} (hm : m < 65536) (h : n < m) (r s : List UInt8) : Lib.compareBytes (UInt8.ofNat (128 + (digs n).length) :: digs n ++ r) (UInt8.ofNat (128 + (digs m).length) :: digs m ++ s) < 0 := by
  have key : ∀ a b : Nat, a < b → b < 256 → ∀ x y, Lib.compareBytes (UInt8.ofNat a :: x) (UInt8.ofNat b :: y) < 0 := fun a b hab hb x y => by
    rw [cb_cons, if_pos ((ofNat_lt (by omega) hb).2 hab)]; decide
  have same : ∀ a : UInt8, ∀ x y, Lib.compareBytes x y < 0 → Lib.compareBytes (a :: x) (a :: y) < 0 := fun a x y hxy => by
    rw [cb_cons, if_neg (by rw [u8_lt]; omega), if_neg (by rw [u8_lt]; omega)]; exact hxy
  by_cases a0 : n = 0
  · subst a0
    by_cases b1 : m < 256
    · rw [digs_0, digs_1 (by omega) b1]; exact key _ _ (by simp) (by simp) _ _
    · rw [digs_0, digs_2 b1]; exact key _ _ (by simp) (by simp) _ _
  · by_cases a1 : n < 256
    · rw [digs_1 a0 a1]
      by_cases b1 : m < 256
      · rw [digs_1 (by omega) b1]; exact same _ _ _ (key _ _ h b1 _ _)
      · rw [digs_2 b1]; exact key _ _ (by simp) (by simp) _ _
    · rw [digs_2 a1, digs_2 (by omega : ¬ m < 256)]
      refine same _ _ _ ?_
      by_cases e : n / 256 < m / 256
      · exact key _ _ e (by omega) _ _
      · have e2 : n / 256 = m / 256 := by omega
        rw [e2]
        exact same _ _ _ (key _ _ (by omega) (by omega) _ _)
theorem inv_lt {a b : Nat} (ha : a < 256) (hb : b < 256) : (UInt8.ofNat (255 - (UInt8.ofNat a).toNat) < UInt8.ofNat (255 - (UInt8.ofNat b).toNat)) ↔ b < a := by
  rw [u8_lt]; simp; omega
theorem invs_lt {n m : Nat} (hm : m < 65536) (h : n < m) (r s : List UInt8) : Lib.compareBytes (UInt8.ofNat (127 - (digs m).length) :: inv8 (digs m) ++ r) (UInt8.ofNat (127 - (digs n).length) :: inv8 (digs n) ++ s) < 0 := by
  have key : ∀ a b : Nat, a < b → b < 256 → ∀ x y, Lib.compareBytes (UInt8.ofNat a :: x) (UInt8.ofNat b :: y) < 0 := fun a b hab hb x y => by
    rw [cb_cons, if_pos ((ofNat_lt (by omega) hb).2 hab)]; decide
  have keyi : ∀ a b : Nat, b < a → a < 256 → ∀ x y, Lib.compareBytes (UInt8.ofNat (255 - (UInt8.ofNat a).toNat) :: x) (UInt8.ofNat (255 - (UInt8.ofNat b).toNat) :: y) < 0 := fun a b hab hb x y => by
    rw [cb_cons, if_pos ((inv_lt hb (by omega)).2 hab)]; decide
  have same : ∀ a : UInt8, ∀ x y, Lib.compareBytes x y < 0 → Lib.compareBytes (a :: x) (a :: y) < 0 := fun a x y hxy => by
    rw [cb_cons, if_neg (by rw [u8_lt]; omega), if_neg (by rw [u8_lt]; omega)]; exact hxy
  by_cases a0 : n = 0
  · subst a0
    by_cases b1 : m < 256
    · rw [digs_0, digs_1 (by omega) b1]; exact key _ _ (by simp) (by simp) _ _
    · rw [digs_0, digs_2 b1]; exact key _ _ (by simp) (by simp) _ _
  · by_cases a1 : n < 256
    · rw [digs_1 a0 a1]
      by_cases b1 : m < 256
      · rw [digs_1 (by omega) b1]; exact same _ _ _ (keyi _ _ h b1 _ _)
      · rw [digs_2 b1]; exact key _ _ (by simp) (by simp) _ _
    · rw [digs_2 a1, digs_2 (by omega : ¬ m < 256)]
      refine same _ _ _ ?_
      by_cases e : n / 256 < m / 256
      · exact keyi _ _ e (by omega) _ _
      · have e2 : n / 256 = m / 256 := by omega
        simp only [inv8, List.map_cons, List.map_nil]
        rw [e2]
        exact same _ _ _ (keyi _ _ (by omega) (by omega) _ _)
theorem enc_i (z : Int) : enc (.i z) = if 0 ≤ z then UInt8.ofNat (128 + (digs z.toNat).length) :: digs z.toNat else UInt8.ofNat (127 - (digs (-(z + 1)).toNat).length) :: inv8 (digs (-(z + 1)).toNat) := rfl

/-- Numbers with a sign lie in their order. -/
theorem enc_i_lt {a b : Int} (ha : -32768 ≤ a) (hb : b ≤ 32767) (h : a < b) (r s : List UInt8) : Lib.compareBytes (enc (.i a) ++ r) (enc (.i b) ++ s) < 0 := by
  have l1 := digs_len a.toNat
  have l2 := digs_len b.toNat
  have l3 := digs_len (-(a + 1)).toNat
  rw [enc_i, enc_i]
  by_cases h0 : 0 ≤ a
  · rw [if_pos h0, if_pos (by omega)]
    exact digs_lt (by omega) (by omega) r s
  · rw [if_neg h0]
    by_cases h1 : 0 ≤ b
    · rw [if_pos h1, List.cons_append, List.cons_append, cb_cons, if_pos ((ofNat_lt (by omega) (by omega)).2 (by omega))]; decide
    · rw [if_neg h1]
      exact invs_lt (by omega) (by omega) r s
theorem enc_i_inj {a b : Int} (ha : -32768 ≤ a ∧ a ≤ 32767) (hb : -32768 ≤ b ∧ b ≤ 32767) {r s : List UInt8} (h : enc (.i a) ++ r = enc (.i b) ++ s) : a = b := by
  rcases Int.lt_trichotomy a b with c | c | c
  · have := enc_i_lt ha.1 hb.2 c r s; rw [h, cb_refl] at this; omega
  · exact c
  · have := enc_i_lt hb.1 ha.2 c s r; rw [h, cb_refl] at this; omega
theorem enc_u_inj {a b : Nat} (ha : a < 65536) (hb : b < 65536) (h : enc (.u a) = enc (.u b)) : a = b := digs_inj ha hb (List.cons.inj h).2
theorem enc_t_inj {a b : ByteArray} (h : enc (.t a) = enc (.t b)) : a = b := by
  have h1 : esc a.data.toList = esc b.data.toList := List.append_cancel_right h
  have h2 := esc_back a.data.toList
  rw [h1, esc_back] at h2
  exact ByteArray.ext (Array.toList_inj.1 h2.symm)
theorem enc_u_len (n : Nat) : (enc (.u n)).length ≤ 3 := by have := digs_len n; simp [enc]; omega
theorem enc_i_len (z : Int) : (enc (.i z)).length ≤ 3 := by
  have := digs_len z.toNat; have := digs_len (-(z + 1)).toNat
  rw [enc_i]; split <;> simp [inv8] <;> omega
theorem enc_t_len {s : ByteArray} (h : s.size ≤ 10) : (enc (.t s)).length ≤ 22 := by
  have := esc_len s.data.toList
  have e : s.data.toList.length = s.size := by simp
  simp [enc]; omega

/-! ### the rows -/
structure Per where
  id : Nat
  nm : ByteArray
  sc : Int
structure Per.Ok (p : Per) : Prop where
  i : p.id < 65536
  n : p.nm.size ≤ 10
  s : -32768 ≤ p.sc ∧ p.sc ≤ 32767
def tP : Tb := ⟨1, [1], [3, 2]⟩
def tT : Tb := ⟨2, [3], [1]⟩
def tE : Tb := ⟨3, [2, 1], []⟩
def rP (p : Per) : List Cl := [.u p.id, .t p.nm, .i p.sc]
def rT (p : Per) : List Cl := [.t p.nm, .u p.id]
def rE (p : Per) : List Cl := [.i p.sc, .u p.id]
def prP (p : Per) : Pr := (rkey tP (rP p), rval tP (rP p))
def prT (p : Per) : Pr := (rkey tT (rT p), rval tT (rT p))
def prE (p : Per) : Pr := (rkey tE (rE p), rval tE (rE p))
theorem tP_ok : tP.Ok := ⟨by decide, by decide, by decide, by decide, by decide, by unfold KOk; decide, by unfold KOk; decide⟩
theorem tT_ok : tT.Ok := ⟨by decide, by decide, by decide, by decide, by decide, by unfold KOk; decide, by unfold KOk; decide⟩
theorem tE_ok : tE.Ok := ⟨by decide, by decide, by decide, by decide, by decide, by unfold KOk; decide, by unfold KOk; decide⟩
theorem rP_ok {p : Per} (h : p.Ok) : RowOk tP (rP p) := ⟨tP_ok, rfl, by intro c hc; simp [rP] at hc; rcases hc with rfl | rfl | rfl; exact h.i; exact h.n; exact h.s⟩
theorem rT_ok {p : Per} (h : p.Ok) : RowOk tT (rT p) := ⟨tT_ok, rfl, by intro c hc; simp [rT] at hc; rcases hc with rfl | rfl; exact h.n; exact h.i⟩
theorem rE_ok {p : Per} (h : p.Ok) : RowOk tE (rE p) := ⟨tE_ok, rfl, by intro c hc; simp [rE] at hc; rcases hc with rfl | rfl; exact h.s; exact h.i⟩
theorem prP_key (p : Per) : (prP p).1.data.toList = 1 :: enc (.u p.id) := by simp [prP, rkey, tP, rP, encs]
theorem prT_key (p : Per) : (prT p).1.data.toList = 2 :: enc (.t p.nm) := by simp [prT, rkey, tT, rT, encs]
theorem prE_key (p : Per) : (prE p).1.data.toList = 3 :: (enc (.i p.sc) ++ enc (.u p.id)) := by simp [prE, rkey, tE, rE, encs]
theorem prP_val (p : Per) : (prP p).2.data.toList = enc (.t p.nm) ++ enc (.i p.sc) := by simp [prP, rval, tP, rP, encs]
theorem prT_val (p : Per) : (prT p).2.data.toList = enc (.u p.id) := by simp [prT, rval, tT, rT, encs]
theorem prE_val (p : Per) : (prE p).2 = ⟨#[]⟩ := by simp [prE, rval, tE, rE, encs]
theorem size_list (s : ByteArray) : s.size = s.data.toList.length := by simp
theorem prP_size {p : Per} (h : p.Ok) : 0 < (prP p).1.size ∧ (prP p).1.size ≤ 4 ∧ (prP p).2.size ≤ 25 := by
  have h1 := enc_u_len p.id; have h2 := enc_t_len h.n; have h3 := enc_i_len p.sc
  rw [size_list, size_list, prP_key, prP_val]
  simp only [List.length_cons, List.length_append]; omega
theorem prT_size {p : Per} (h : p.Ok) : 0 < (prT p).1.size ∧ (prT p).1.size ≤ 23 ∧ (prT p).2.size ≤ 3 := by
  have h1 := enc_u_len p.id; have h2 := enc_t_len h.n
  rw [size_list, size_list, prT_key, prT_val]
  simp only [List.length_cons]; omega
theorem prE_size {p : Per} (h : p.Ok) : 0 < (prE p).1.size ∧ (prE p).1.size ≤ 7 ∧ (prE p).2.size = 0 := by
  have h1 := enc_u_len p.id; have h3 := enc_i_len p.sc
  rw [size_list, prE_key, prE_val]
  simp only [List.length_cons, List.length_append]; exact ⟨by omega, by omega, rfl⟩
theorem prP_cost {p : Per} (h : p.Ok) : costP (prP p) ≤ 6 := by
  obtain ⟨h0, h1, h2⟩ := prP_size h
  unfold costP rec_ nw; omega
theorem prT_cost {p : Per} (h : p.Ok) : costP (prT p) ≤ 5 := by
  obtain ⟨h0, h1, h2⟩ := prT_size h
  unfold costP rec_ nw; omega

/-! ### keys that differ -/
theorem prP_inj {p q : Per} (hp : p.Ok) (hq : q.Ok) (h : (prP p).1 = (prP q).1) : p.id = q.id := by
  have := congrArg (fun s : ByteArray => s.data.toList) h
  simp only [prP_key] at this
  exact enc_u_inj hp.i hq.i (List.cons.inj this).2
theorem prT_inj {p q : Per} (h : (prT p).1 = (prT q).1) : p.nm = q.nm := by
  have := congrArg (fun s : ByteArray => s.data.toList) h
  simp only [prT_key] at this
  exact enc_t_inj (List.cons.inj this).2
theorem prE_inj {p q : Per} (hp : p.Ok) (hq : q.Ok) (h : (prE p).1 = (prE q).1) : p.id = q.id := by
  have := congrArg (fun s : ByteArray => s.data.toList) h
  simp only [prE_key] at this
  have h2 := (List.cons.inj this).2
  have e := enc_i_inj hp.s hq.s h2
  rw [e] at h2
  exact enc_u_inj hp.i hq.i (List.append_cancel_left h2)
theorem prP_same {p q : Per} (h : p.id = q.id) : (prP p).1 = (prP q).1 := by
  apply ByteArray.ext; apply Array.toList_inj.1
  rw [prP_key, prP_key, h]
theorem prT_same {p q : Per} (h : p.nm = q.nm) : (prT p).1 = (prT q).1 := by
  apply ByteArray.ext; apply Array.toList_inj.1
  rw [prT_key, prT_key, h]
theorem PT_ne (p q : Per) : (prP p).1 ≠ (prT q).1 := fun h => by
  have := congrArg (fun s : ByteArray => s.data.toList) h
  simp only [prP_key, prT_key] at this
  have := (List.cons.inj this).1
  revert this; decide
theorem PE_ne (p q : Per) : (prP p).1 ≠ (prE q).1 := fun h => by
  have := congrArg (fun s : ByteArray => s.data.toList) h
  simp only [prP_key, prE_key] at this
  have := (List.cons.inj this).1
  revert this; decide

/-! ### sorted lists -/
theorem ins_mem_iff {x : Pr} : ∀ {L : List Pr}, Srt L → ∀ y, y ∈ ins x L ↔ y = x ∨ (y ∈ L ∧ y.1 ≠ x.1)
  | [], _, y => by simp [ins]
  | z :: l, h, y => by
    rw [ins_cons]
    by_cases c : cmpS x.1 z.1 < 0
    · rw [if_pos c, List.mem_cons]
      refine or_congr_right ⟨fun hy => ⟨hy, fun e => ?_⟩, fun hy => hy.1⟩
      have : cmpS x.1 y.1 < 0 := by
        rcases List.mem_cons.1 hy with rfl | hy
        · exact c
        · exact cmp_trans c (h.head hy)
      rw [e, cmp_refl] at this; omega
    · rw [if_neg c]
      by_cases c2 : cmpS x.1 z.1 = 0
      · rw [if_pos c2, List.mem_cons]
        have e2 := cmp_eq0 c2
        refine or_congr_right ⟨fun hy => ⟨List.mem_cons_of_mem _ hy, fun e => ?_⟩, fun hy => ?_⟩
        · have := h.head hy
          rw [e, e2, cmp_refl] at this; omega
        · rcases List.mem_cons.1 hy.1 with rfl | hy'
          · exact absurd e2.symm hy.2
          · exact hy'
      · rw [if_neg c2, List.mem_cons, ins_mem_iff h.tail y, List.mem_cons]
        constructor
        · rintro (rfl | rfl | ⟨h1, h2⟩)
          · exact .inr ⟨.inl rfl, fun e => c2 (by rw [e, cmp_refl])⟩
          · exact .inl rfl
          · exact .inr ⟨.inr h1, h2⟩
        · rintro (rfl | ⟨rfl | h1, h2⟩)
          · exact .inr (.inl rfl)
          · exact .inl rfl
          · exact .inr (.inr ⟨h1, h2⟩)
theorem rmv_mem (k : ByteArray) (L : List Pr) (y : Pr) : y ∈ rmv k L ↔ y ∈ L ∧ y.1 ≠ k := by simp [rmv]
theorem Srt.eq : ∀ {L M : List Pr}, Srt L → Srt M → (∀ x, x ∈ L ↔ x ∈ M) → L = M
  | [], M, _, _, h => by
    cases M with
    | nil => rfl
    | cons m M => have := (h m).2 (by simp); simp at this
  | x :: l, [], _, _, h => by have := (h x).1 (by simp); simp at this
  | x :: l, m :: M, hL, hM, h => by
    have e : x = m := by
      rcases List.mem_cons.1 ((h x).1 (by simp)) with e | h1
      · exact e
      · rcases List.mem_cons.1 ((h m).2 (by simp)) with e | h2
        · exact e.symm
        · have := cmp_trans (hM.head h1) (hL.head h2)
          rw [cmp_refl] at this; omega
    subst e
    have : l = M := Srt.eq hL.tail hM.tail fun y => by
      constructor
      · intro hy
        rcases List.mem_cons.1 ((h y).1 (List.mem_cons_of_mem _ hy)) with e | h1
        · have := hL.head hy; rw [e, cmp_refl] at this; omega
        · exact h1
      · intro hy
        rcases List.mem_cons.1 ((h y).2 (List.mem_cons_of_mem _ hy)) with e | h1
        · have := hM.head hy; rw [e, cmp_refl] at this; omega
        · exact h1
    rw [this]
theorem Srt.nodup {L : List Pr} (h : Srt L) : L.Nodup := by
  induction L with
  | nil => exact List.nodup_nil
  | cons x l ih => exact List.nodup_cons.2 ⟨fun hx => by have := h.head hx; rw [cmp_refl] at this; omega, ih h.tail⟩
theorem Srt.uniq {L : List Pr} (h : Srt L) {x y : Pr} (hx : x ∈ L) (hy : y ∈ L) (e : x.1 = y.1) : x = y := by
  obtain ⟨i, hi⟩ := List.mem_iff_getElem?.1 hx
  obtain ⟨j, hj⟩ := List.mem_iff_getElem?.1 hy
  rcases Nat.lt_trichotomy i j with c | c | c
  · have := h i j x y c hi hj; rw [e, cmp_refl] at this; omega
  · subst c; rw [hi] at hj; exact Option.some.inj hj
  · have := h j i y x c hj hi; rw [e, cmp_refl] at this; omega

end Go.Proofs.YtpcaadipejnllaaGreatDoor

/- The table of an index. -/
set_option linter.unusedVariables false
set_option linter.unusedSimpArgs false
namespace Go.Proofs.YtpcaadipejnllaaGreatDoor
open Go.RowKit

theorem kindsP_w (vk vr : Value) (w : World) (h1 : KS w vk [1]) (h2 : KS w vr [3, 2]) :
    Calls Tryz.prog 69 #[.agg (tbV tP vk vr)] w fun e w' => ∃ v', e = .returned v' ∧ w'.ownsRow w.heap.size 59 1 v' 3 (ints [1, 3, 2]) ∧ Chg [] w w' :=
  (kinds_w tP vk vr w tP_ok h1 h2).mono fun e w' h => h

theorem op_append_k {o : Oper} {a : Act} {w : World} {K : Act → World → Prop} {Q : Exit → Act → World → Prop} (s x : Operand) (ho : o.op = .call { callee := .builtin .append, args := #[s, x], argTypes := #[35, 35] })
    (base : Nat) (v : Value) (L : List Int) (hs : a.eval s = v) (hown : w.ownsRow base 59 1 v L.length (ints L)) (b : Nat) (z : Int) (hx : a.eval x = .slice (some ⟨b, 0, none⟩) 1 1) (hb : Blk w b 59 #[.int .i64 z]) (hL : L.length ≤ 2000) (hbase : base ≤ w.heap.size)
    (h : ∀ v' w', w'.ownsRow base 59 1 v' (L ++ [z]).length (ints (L ++ [z])) → Chg v.ownBlock.toList w w' → K (a.put o.dst v') w') : o.wp Tryz.prog a w K Q := by
  obtain ⟨i0, hi, hz0, hz1, hz2⟩ := info_parts info59
  refine wp_append_own w s x 35 ho base 59 i0 _ 1 8 Tryz.underlying35 hi hz0 hz1 hz2 rfl (by decide) v L.length (ints L) hs hown ⟨b, 0, none⟩ 1 1 [.int .i64 z] hx rfl (fun j u hj => ?_) (by simp [Value.oneCell']) (by unfold maxLen; omega) (by omega) hbase (fun v' w' h3 h4 _ => h v' w' (by rw [List.length_append, ints_append]; exact h3) (Chg.of_grown h4))
  rw [add_mk, Nat.zero_add, hb.cell]
  match j, hj with
  | 0, hj => simpa using hj

theorem one3 {v : Value} {z : Int} (h : v.oneCell' = true) : (#[Value.int .i64 z, v, .slice none 0 0]).all (·.oneCell') = true := by
  rw [Array.all_eq_true_iff_forall_mem]
  intro u hu
  simp at hu
  rcases hu with rfl | rfl | rfl
  · rfl
  · exact h
  · rfl

set_option maxRecDepth 100000 in
set_option maxHeartbeats 1000000 in
theorem tableof_o (vk vr : Value) (cb cc : Nat) (w : World) (h1 : KS w vk [1]) (h2 : KS w vr [3, 2]) (hc : w.cell? ⟨cb, 0, none⟩ = some (.int .i64 2)) :
    Calls Tryz.prog 35 #[.agg (tbV tP vk vr), .agg #[.int .i64 3, .slice (some ⟨cb, 0, none⟩) 1 cc, .bool false]] w fun e w' => ∃ v', e = .returned (.agg (tbV tE v' (.slice none 0 0))) ∧ w'.ownsRow w.heap.size 59 1 v' 2 (ints [2, 1]) ∧ Chg [] w w' := by
  obtain ⟨A1, c1, rfl, hc1, hm1⟩ := h1.form
  obtain ⟨A2, c2, rfl, hc2, hm2⟩ := h2.form
  have hcb : cb < w.heap.size := block_lt_of_cell hc
  go_enter Tryz.func35, Tryz.ntmps35
  go_wp2
  refine wp_world (fun W => Blk W w.heap.size 37 (tbV tP (.slice A1 1 c1) (.slice A2 2 c2)) ∧ Blk W (w.heap.size + 1) 41 #[.int .i64 3, .slice (some ⟨cb, 0, none⟩) 1 cc, .bool false] ∧ Blk W (w.heap.size + 1 + 1) 37 #[.int .i64 0, .slice none 0 0, .slice none 0 0] ∧ Blk W (w.heap.size + 1 + 1 + 1) 37 #[.int .i64 3, .slice none 0 0, .slice none 0 0] ∧ Chg [] w W)
    ⟨(((Blk.new w 37 _).alloc _).alloc _).alloc _, ((Blk.newEq (by simp)).alloc _).alloc _, (Blk.newEq (by simp)).alloc _, Blk.newEq (by simp), ((((Chg.refl _ _).alloc _).alloc _).alloc _).alloc _⟩ (fun W0 hW => ?_)
  obtain ⟨hB, hX, hZ, hO, hC0⟩ := hW
  have hc0 : W0.cell? ⟨cb, 0, none⟩ = some (.int .i64 2) := by rw [hC0.cell hcb (by simp)]; exact hc
  have hK1 := h1.ext hC0
  have hK2 := h2.ext hC0
  have hs0 := hC0.size
  have hl0 := hO.lt
  refine wp_loop_rounds 2 ?_
  rw [rounds_succ]
  go_upto_region 5 with (fail)
  refine wp_region_K (S := fun W => Blk W w.heap.size 37 (tbV tP (.slice A1 1 c1) (.slice A2 2 c2)) ∧ W.cell? ⟨w.heap.size + 1 + 1 + 1, 1, none⟩ = some (.slice none 0 0)) 10 (by kernel_rfl) (⟨hB.drew, hO.drew.cell 1⟩) (fun hH => ?_)
  refine wpAnyK_take (i := 0) (v := .pointer (some ⟨w.heap.size + 1 + 1 + 1, 1, none⟩)) rfl (by kernel_rfl) (by kernel_rfl) (by kernel_rfl) (by kernel_rfl) (by decide) (fun _ _ _ h => h) (Or.inl ⟨by rfl, fun w' hw' => by go_simp⟩) hH ?_
  try simp only [List.getElem_toArray, List.getElem_cons_succ, List.getElem_cons_zero, Act.put, List.setIfInBounds_toArray, List.set_cons_zero, List.set_cons_succ]
  refine wpAnyK_take (i := 1) (v := .slice none 0 0) rfl (by kernel_rfl) (by kernel_rfl) (by kernel_rfl) (by kernel_rfl) (by decide) (fun _ _ _ h => h) (yieldsIf_load_cell (by rfl) 35 _ rfl (w.heap.size + 1 + 1 + 1) (1) rfl _ (fun w' hw' => hw'.2) (fun w => Tryz.isAgg35 w)) hH ?_
  try simp only [List.getElem_toArray, List.getElem_cons_succ, List.getElem_cons_zero, Act.put, List.setIfInBounds_toArray, List.set_cons_zero, List.set_cons_succ]
  refine wpAnyK_take (i := 2) rfl (by kernel_rfl) (by kernel_rfl) (by kernel_rfl) (by kernel_rfl) (by decide) (fun _ _ _ h => h) (yieldsIf_load_mid (by rfl) _ _ rfl (w.heap.size) (0) rfl ((tbV tP (.slice A1 1 c1) (.slice A2 2 c2)).toList) _ (fun w' hw' => fun j u hv => by rw [Nat.zero_add, hw'.1.cell, ← Array.getElem?_toList]; exact hv) Tryz.underlying37 rfl (by kernel_rfl)) hH ?_
  try simp only [List.getElem_toArray, List.getElem_cons_succ, List.getElem_cons_zero, Act.put, List.setIfInBounds_toArray, List.set_cons_zero, List.set_cons_succ]
  refine wpAnyK_take (i := 4) (v := .int .i64 2) rfl (by kernel_rfl) (by kernel_rfl) (by kernel_rfl) (by kernel_rfl) (by decide) (fun _ _ _ h => h) (Or.inl ⟨by rfl, fun w' hw' => by go_simp⟩) hH ?_
  try simp only [List.getElem_toArray, List.getElem_cons_succ, List.getElem_cons_zero, Act.put, List.setIfInBounds_toArray, List.set_cons_zero, List.set_cons_succ]
  refine wpAnyK_ready (rs := [3]) (by kernel_rfl) (by simp) ?_
  refine AllReadyK.cons rfl (fun K hK => ?_) AllReadyK.nil
  go_simp
  refine (kindsP_w _ _ _ (hK1.ext ((Chg.refl [] W0).drew)) (hK2.ext ((Chg.refl [] W0).drew))).mono ?_
  rintro e W1 ⟨v1, rfl, ho1, hC1⟩
  have hB1 := hB.drew.ext hC1
  have hO1 := hO.drew.ext hC1
  obtain ⟨s1, o1, d1, rfl, hs1, hx1⟩ := own_at ho1 (by decide)
  have hk2 := hx1 2 (by decide)
  refine hK.out _ _ (⟨hB1, hO1.cell 1⟩) (fun hH => ?_)
  clear hK K
  try simp only [List.getElem_toArray, List.getElem_cons_succ, List.getElem_cons_zero, Act.put, List.setIfInBounds_toArray, List.set_cons_zero, List.set_cons_succ]
  refine wpAnyK_take (i := 5) (v := .pointer (some ⟨s1, o1 + 2, none⟩)) rfl (by kernel_rfl) (by kernel_rfl) (by kernel_rfl) (by kernel_rfl) (by decide) (fun _ _ _ h => h) (Or.inl ⟨by rfl, fun w' hw' => by go_simp⟩) hH ?_
  try simp only [List.getElem_toArray, List.getElem_cons_succ, List.getElem_cons_zero, Act.put, List.setIfInBounds_toArray, List.set_cons_zero, List.set_cons_succ]
  refine wpAnyK_ready (rs := [6]) (by kernel_rfl) (by simp) ?_
  refine AllReadyK.cons rfl (fun K hK => ?_) AllReadyK.nil
  rw [if_pos (by rfl)]
  refine op_load_one 59 _ rfl (s1) (o1 + 2) rfl (.int .i64 2) (hk2) (fun w => Tryz.isAgg59 w) ?_
  refine hK.out _ _ (⟨hB1, hO1.cell 1⟩) (fun hH => ?_)
  clear hK K
  try simp only [List.getElem_toArray, List.getElem_cons_succ, List.getElem_cons_zero, Act.put, List.setIfInBounds_toArray, List.set_cons_zero, List.set_cons_succ]
  refine wpAnyK_ready (rs := [7]) (by kernel_rfl) (by simp) ?_
  refine AllReadyK.cons rfl (fun K hK => ?_) AllReadyK.nil
  go_simp
  have ho7 := World.ownsRow_nil (W1.alloc (.cells #[.int .i64 2] 59)) w.heap.size 59 1
  refine hK.out _ _ (⟨hB1.alloc _, (hO1.alloc _).cell 1⟩) (fun hH => ?_)
  clear hK K
  try simp only [List.getElem_toArray, List.getElem_cons_succ, List.getElem_cons_zero, Act.put, List.setIfInBounds_toArray, List.set_cons_zero, List.set_cons_succ]
  refine wpAnyK_ready (rs := [8]) (by kernel_rfl) (by simp) ?_
  refine AllReadyK.cons rfl (fun K hK => ?_) AllReadyK.nil
  rw [if_pos (by rfl)]
  refine op_append_k _ _ rfl w.heap.size (.slice none 0 0) [] rfl ho7 W1.heap.size 2 rfl (Blk.new W1 59 _) (by simp) (by have := hC1.size; simp at this ⊢; omega) ?_
  intro v2 W2 ho2 hC2
  have hC2' : Chg [] (W1.alloc (.cells #[.int .i64 2] 59)) W2 := hC2
  have hO2 := (hO1.alloc (.cells #[.int .i64 2] 59)).ext hC2'
  have hB2 := (hB1.alloc (.cells #[.int .i64 2] 59)).ext hC2'
  refine hK.out _ _ (⟨hB2, hO2.cell 1⟩) (fun hH => ?_)
  clear hK K
  try simp only [List.getElem_toArray, List.getElem_cons_succ, List.getElem_cons_zero, Act.put, List.setIfInBounds_toArray, List.set_cons_zero, List.set_cons_succ]
  refine wpAnyK_take (i := 9) (v := .pointer (some ⟨w.heap.size + 1 + 1 + 1, 1, none⟩)) rfl (by kernel_rfl) (by kernel_rfl) (by kernel_rfl) (by kernel_rfl) (by decide) (fun _ _ _ h => h) (Or.inl ⟨by rfl, fun w' hw' => by go_simp⟩) hH ?_
  try simp only [List.getElem_toArray, List.getElem_cons_succ, List.getElem_cons_zero, Act.put, List.setIfInBounds_toArray, List.set_cons_zero, List.set_cons_succ]
  refine wpAnyK_ready (rs := [10]) (by kernel_rfl) (by simp) ?_
  refine AllReadyK.last rfl (fun K hK => ?_)
  rw [if_pos (by rfl)]
  refine op_store_one 35 _ _ rfl (w.heap.size + 1 + 1 + 1) 1 rfl v2 rfl 37 _ hO2 (by simp) (by kernel_rfl) (own_one ho2) ?_
  intro W3 hC3 hs3 hO3
  refine hK.out _ _ ?_
  clear hK K
  try simp only [List.getElem_toArray, List.getElem_cons_succ, List.getElem_cons_zero, Act.put, List.setIfInBounds_toArray, List.set_cons_zero, List.set_cons_succ]
  refine wpAnyK_done (by kernel_rfl) ?_ _
  have hB3 := hB2.chg hC3 (by simp; omega)
  have hX3 := (((hX.drew.ext hC1).alloc (.cells #[.int .i64 2] 59)).ext hC2').chg hC3 (by simp)
  have hZ3 := (((hZ.drew.ext hC1).alloc (.cells #[.int .i64 2] 59)).ext hC2').chg hC3 (by simp)
  have ho3 := own_chg ho2 hC3 (fun k hk hm => own_ne ho2 hO2 (by decide) hk (by simpa using hm))
  have hCC3 : Chg [] w W3 := ((((hC0.drew.trans hC1).alloc (.cells #[.int .i64 2] 59)).trans hC2').on hC3 (fun i hi => .inr (by simp at hi; omega)))
  have hK3 := h1.ext hCC3
  have hk3 : W3.cell? ⟨w.heap.size, 1, none⟩ = some (.slice A1 1 c1) := hB3.cell 1
  have ho31 : W3.cell? ⟨w.heap.size + 1 + 1 + 1, 1, none⟩ = some v2 := hO3.cell 1
  have hx3 : W3.cell? ⟨w.heap.size + 1, 2, none⟩ = some (.bool false) := hX3.cell 2
  obtain ⟨A3, c3, rfl, hc3a, hc3b⟩ := (Sl.own ho3).form
  have hl3 := hZ3.lt
  have hs3 := hCC3.size
  have hO3' : Blk W3 (w.heap.size + 1 + 1 + 1) 37 #[.int .i64 3, .slice A3 ([] ++ [2]).length c3, .slice none 0 0] := hO3
  go_wp2_with fail
  rw [rounds_succ]
  go_wp2_with (first
    | (at_builtin; go_loud (refine wpList_append_ks rfl _ _ rfl w.heap.size (.slice A3 1 c3) (.slice A1 1 c1) [2] [1] rfl ho3 rfl hK3 (by decide) (by decide) hCC3.size ?_; intro v4 W4 ho4 hC4; have hO4 := hO3'.chg hC4 (fun hm => own_ne ho3 hO3' (by decide) (by simpa using hm) rfl); have hZ4 := hZ3.chg hC4 (fun hm => own_ne ho3 hZ3 (by decide) (by simpa using hm) rfl)))
    | (refine wpList_store_one rfl 35 (.tmp 40) (.tmp 39) rfl (w.heap.size + 1 + 1 + 1) 1 rfl v4 rfl 37 _ hO4 (by simp) (by kernel_rfl) (own_one ho4) ?_; intro W5 hC5 hs5 hO5; have hO5' : Blk W5 (w.heap.size + 1 + 1 + 1) 37 #[.int .i64 3, v4, .slice none 0 0] := hO5; have hZ5 := hZ4.chg hC5 (by simp); have ho5 := own_chg ho4 hC5 (fun k hk hm => own_ne ho4 hO4 (by decide) hk (by simpa using hm)))
    | (refine wpList_load_row rfl 37 (.tmp 5) rfl (w.heap.size + 1 + 1 + 1) rfl 37 _ (0, 0) _ hO5' Tryz.underlying37 rfl (by kernel_rfl) ?_)
    | (refine wpList_store_blk rfl 37 (.tmp 4) (.tmp 41) rfl (w.heap.size + 1 + 1) rfl #[.int .i64 3, v4, .slice none 0 0] rfl 37 _ hZ5 (by kernel_rfl) rfl (one3 (own_one ho4)) ?_; intro W6 hC6 hs6 hZ6))
  refine bodyPost_ret (res_row rfl _ hZ6 rfl Tryz.underlying37 rfl (by kernel_rfl)) rfl ⟨v4, rfl, ?_, ?_⟩
  · exact own_chg ho5 hC6 (fun k hk hm => own_ne ho5 hZ5 (by decide) hk (by simpa using hm))
  · exact (((hCC3.on hC4 (fun i hi => .inr (by have := (ho3.lt i (by simpa using hi)).1; omega))).on hC5 (fun i hi => .inr (by simp at hi; omega))).on hC6 (fun i hi => .inr (by simp at hi; omega)))

theorem tableof_w (vk vr : Value) (cb cc : Nat) (w : World) (h1 : KS w vk [1]) (h2 : KS w vr [3, 2]) (hc : w.cell? ⟨cb, 0, none⟩ = some (.int .i64 2)) :
    Calls Tryz.prog 35 #[.agg (tbV tP vk vr), .agg #[.int .i64 3, .slice (some ⟨cb, 0, none⟩) 1 cc, .bool false]] w fun e w' => ∃ v', e = .returned (.agg (tbV tE v' (.slice none 0 0))) ∧ KS w' v' [2, 1] ∧ Chg [] w w' :=
  (tableof_o vk vr cb cc w h1 h2 hc).mono fun e w' ⟨v', h, ho, hC⟩ => ⟨v', h, KS.own ho (by decide), hC⟩

end Go.Proofs.YtpcaadipejnllaaGreatDoor

/- A row is read. -/
set_option linter.unusedVariables false
set_option linter.unusedSimpArgs false
namespace Go.Proofs.YtpcaadipejnllaaGreatDoor
open Go.RowKit

theorem encs_drop (P : List Cl) (j : Nat) (c : Cl) (h : P[j]? = some c) : encs (P.drop j) = enc c ++ encs (P.drop (j + 1)) := by
  have hl := (List.getElem?_eq_some_iff.1 h).1
  rw [List.drop_eq_getElem_cons hl, (List.getElem?_eq_some_iff.1 h).2]
  simp [encs]
theorem take_one {α : Type} (P : List α) (j : Nat) (c : α) (h : P[j]? = some c) : P.take (j + 1) = P.take j ++ [c] := by
  have hl := (List.getElem?_eq_some_iff.1 h).1
  rw [List.take_succ_eq_append_getElem hl, (List.getElem?_eq_some_iff.1 h).2]
theorem rkey_ext (t : Tb) (l : List Cl) : (rkey t l).extract 1 (rkey t l).size = ⟨(encs (l.take t.k.length)).toArray⟩ := by
  have := ext_tail (UInt8.ofNat t.n) (encs (l.take t.k.length))
  have e : (rkey t l).size = (encs (l.take t.k.length)).length + 1 := by unfold rkey; rw [size_list]; rfl
  rw [e]; exact this

set_option maxRecDepth 100000 in
set_option maxHeartbeats 1000000 in
theorem read_row (t : Tb) (vk vr : Value) (l : List Cl) (w : World) (hR : RowOk t l) (h1 : KS w vk t.k) (h2 : KS w vr t.r) (hG : Gv w) (hk24 : (rkey t l).size ≤ 24) (hv40 : (rval t l).size ≤ 40) :
    Calls Tryz.prog 45 #[.agg (tbV t vk vr), .string (rkey t l), .string (rval t l)] w fun e w' => ∃ v', e = .returned (.tuple #[v', .int .i64 0]) ∧ w'.ownsRow w.heap.size 62 5 v' l.length (cls l) ∧ Chg [] w w' := by
  obtain ⟨A1, c1, rfl, hc1, hm1⟩ := h1.form
  obtain ⟨A2, c2, rfl, hc2, hm2⟩ := h2.form
  have hlen := hR.len
  obtain ⟨ht, hkd, hok⟩ := id hR
  have hk8 := ht.k8
  have hr8 := ht.r8
  have hx := rkey_ext t l
  have hpos : 1 ≤ (rkey t l).size := by unfold rkey; rw [size_list]; simp
  have hne : (rkey t l).toList.isEmpty = false := by rw [ByteArray.toList_eq]; rfl
  obtain ⟨S0, hS0⟩ : ∃ S, S = (⟨(encs (l.take t.k.length)).toArray⟩ : ByteArray) := ⟨_, rfl⟩
  obtain ⟨S1, hS1⟩ : ∃ S, S = rval t l := ⟨_, rfl⟩
  obtain ⟨ky, hky⟩ : ∃ S, S = rkey t l := ⟨_, rfl⟩
  rw [← hS0] at hx
  rw [← hky] at hx hpos hne hk24 ⊢
  rw [← hS1] at hv40 ⊢
  obtain ⟨P0, hP0⟩ : ∃ P, P = l.take t.k.length := ⟨_, rfl⟩
  obtain ⟨P1, hP1⟩ : ∃ P, P = l.drop t.k.length := ⟨_, rfl⟩
  have hlP0 : P0.length = t.k.length := by rw [hP0, List.length_take]; omega
  have hlP1 : P1.length = t.r.length := by rw [hP1, List.length_drop]; omega
  have hkP0 : P0.map Cl.kd = t.k := by rw [hP0, List.map_take, hkd]; simp
  have hkP1 : P1.map Cl.kd = t.r := by rw [hP1, List.map_drop, hkd]; simp
  have hoP0 : ∀ x ∈ P0, x.Ok := fun x hx => hok x (by rw [hP0] at hx; exact List.mem_of_mem_take hx)
  have hoP1 : ∀ x ∈ P1, x.Ok := fun x hx => hok x (by rw [hP1] at hx; exact List.mem_of_mem_drop hx)
  have hPl : P0 ++ P1 = l := by rw [hP0, hP1, List.take_append_drop]
  rw [← hP0] at hS0
  unfold rval at hS1
  rw [← hP1] at hS1
  have HlP0 := Lib.hid hlP0
  have HlP1 := Lib.hid hlP1
  have HkP0 := Lib.hid hkP0
  have HkP1 := Lib.hid hkP1
  have HoP0 := Lib.hid hoP0
  have HoP1 := Lib.hid hoP1
  have HPl := Lib.hid hPl
  clear hlP0 hlP1 hkP0 hkP1 hoP0 hoP1 hPl hP0 hP1
  have HS0 := Lib.hid hS0
  have HS1 := Lib.hid hS1
  have Hky := Lib.hid hky
  have Hlen := Lib.hid hlen
  have Hkd := Lib.hid hkd
  clear hS0 hS1 hky hlen hkd
  have hB0 : Blk (w.alloc (.cells (tbV t (.slice A1 t.k.length c1) (.slice A2 t.r.length c2)) 37)) w.heap.size 37 (tbV t (.slice A1 t.k.length c1) (.slice A2 t.r.length c2)) := Blk.new _ _ _
  have hC0 : Chg [] w (w.alloc (.cells (tbV t (.slice A1 t.k.length c1) (.slice A2 t.r.length c2)) 37)) := (Chg.refl _ _).alloc _
  go_enter Tryz.func45, Tryz.ntmps45
  go_wp2_with (first
    | (refine wpList_load_row rfl 37 (.tmp 3) rfl w.heap.size rfl 37 _ (0, 0) _ hB0 Tryz.underlying37 rfl (by kernel_rfl) ?_)
    | (go_at_call 28; refine (valid_t t _ _ _ ht (h1.ext hC0) (h2.ext hC0)).mono ?_; rintro e w1 ⟨rfl, hC1⟩))
  obtain ⟨sb, hsb⟩ : ∃ sb, sb = w1.heap.size := ⟨_, rfl⟩
  have hCC1 := hC0.trans hC1
  refine wp_world (fun W => Blk W w.heap.size 37 (tbV t (.slice A1 t.k.length c1) (.slice A2 t.r.length c2)) ∧ Blk W sb 9 #[.string S0, .string S1] ∧ Chg [] w W) ⟨(hB0.ext hC1).alloc _, Blk.newEq hsb, hCC1.alloc _⟩ (fun W0 hW => ?_)
  rw [← hsb]
  clear hsb
  obtain ⟨hBW0, hDW0, hCW0⟩ := hW
  have b1 : W0.cell? ⟨w.heap.size, 1, none⟩ = some (.slice A1 t.k.length c1) := hBW0.cell 1
  have b2 : W0.cell? ⟨w.heap.size, 2, none⟩ = some (.slice A2 t.r.length c2) := hBW0.cell 2
  have d0 : W0.cell? ⟨sb, 0, none⟩ = some (.string S0) := hDW0.cell 0
  have d1 : W0.cell? ⟨sb, 1, none⟩ = some (.string S1) := hDW0.cell 1
  refine wp_loop_rounds 3 ?_
  rw [rounds_succ]
  go_wp2
  go_loopw [8, 10, 43] (fun v s i wr => ∃ (j : Nat) (vo : Value), vo = v ∧ j ≤ t.k.length ∧ i = .int .i64 j ∧ s = .string ⟨(encs (P0.drop j)).toArray⟩ ∧ wr.ownsRow w.heap.size 62 5 vo (([] : List Cl) ++ P0.take j).length (cls (([] : List Cl) ++ P0.take j)) ∧ Chg [] w wr ∧ Blk wr w.heap.size 37 (tbV t (.slice A1 t.k.length c1) (.slice A2 t.r.length c2)) ∧ Blk wr sb 9 #[.string S0, .string S1]) (fun _ _ i _ => t.k.length - (intOf i).toNat)
  case atStart => exact ⟨0, _, rfl, Nat.zero_le _, rfl, by rw [HS0.out]; rfl, by exact World.ownsRow_nil _ _ _ _, hCW0.alloc _, hBW0.alloc _, hDW0.alloc _⟩
  case round =>
    obtain ⟨j, vo, rfl, hj, rfl, hs, ho, hCw, hBw, hDw⟩ := hrel
    by_cases hlt : j < t.k.length
    · have hjl : j < P0.length := by have := HlP0.out; omega
      obtain ⟨x, hx⟩ : ∃ x, P0[j]? = some x := ⟨_, List.getElem?_eq_getElem hjl⟩
      have hkx : t.k[j]? = some x.kd := by rw [← HkP0.out, List.getElem?_map, hx]; rfl
      obtain ⟨b, o, c', e, hcell⟩ := (h1.ext hCw).at_ j x.kd hkx
      injection e with e1 e2 e3
      subst e1 e3
      rw [encs_drop P0 j x hx] at hs
      subst hs
      have hxo : x.Ok := HoP0.out x (List.mem_of_getElem? hx)
      have hrl : (encs (P0.drop (j + 1))).length ≤ 1000 := by
        have := encs_len (l := P0.drop (j + 1)) (fun y hy => HoP0.out y (List.mem_of_mem_drop hy))
        have h2 := HlP0.out
        simp at this
        omega
      have hG1 := hG.chg hCw (by simp)
      have hDl : (([] : List Cl) ++ P0.take j).length ≤ 100 := by have := HlP0.out; have := HlP0.out; simp; omega
      have Hx := Lib.hid hx
      clear hx hkx
      go_wp2_with (first
        | (go_at_call 90; refine (take_w x hxo _ hrl _ hG1).mono ?_; rintro e w5 ⟨rfl, hC5⟩)
        | (refine wpList_store_blk rfl 62 (.tmp 13) (.tmp 51) rfl w5.heap.size rfl x.cs rfl 62 _ (Blk.new w5 62 _) (cs_size x ▸ (by kernel_rfl)) (by rw [cs_size x]; rfl) (cs_one x) ?_; intro w6 hC6 hs6 hB6; have hC6w : Chg [] wr w6 := ((hC5.alloc _).on hC6 (fun i hi => .inr (by simp at hi; have := hC5.size; omega))); have ho6 := own_ext ho hC6w; clear hs6)
        | (refine wpList_load_row rfl 62 (.tmp 13) rfl w5.heap.size rfl 62 x.cs (0, 0) _ hB6 Tryz.underlying62 rfl (cs_size x ▸ (by kernel_rfl)) ?_)
        | (refine wpList_buildSlice_cl rfl (.tmp 57) rfl x rfl ?_)
        | (at_builtin; go_loud (refine wpList_append_cl rfl _ _ rfl w.heap.size vo (([] : List Cl) ++ P0.take j) [x] rfl (ho6.alloc _) _ 1 rfl (Sl.ofCell (Blk.new _ 62 x.cs)) (Nat.succ_pos _) (Nat.le_trans hDl (by decide)) (Nat.le_add_left 1 1999) (by have := hCw.size; have := hC6w.size; simp; omega) ?_; intro v7 w7 ho7 hC7)))
      go_roundw
      case rel =>
        refine ⟨j + 1, v7, rfl, by omega, by go_num, rfl, ?_, ?_, ?_, ?_⟩
        · rw [take_one P0 j x Hx.out, ← List.append_assoc]; exact ho7
        · exact ((hCw.trans hC6w).alloc _).on hC7 (fun i hi => .inr (ho.lt i (by simpa using hi)).1)
        · exact ((hBw.ext hC6w).alloc _).chg hC7 (fun hm => own_ne ho hBw (by decide) (by simpa using hm) rfl)
        · exact ((hDw.ext hC6w).alloc _).chg hC7 (fun hm => own_ne ho hDw (by decide) (by simpa using hm) rfl)
      case measure => simp [intOf]; omega
    · obtain rfl : j = t.k.length := by omega
      obtain ⟨W2, rfl⟩ : ∃ W2 : World, W2 = wr := ⟨_, rfl⟩
      have b1 : W2.cell? ⟨w.heap.size, 1, none⟩ = some (.slice A1 t.k.length c1) := hBw.cell 1
      have b2 : W2.cell? ⟨w.heap.size, 2, none⟩ = some (.slice A2 t.r.length c2) := hBw.cell 2
      have d0 : W2.cell? ⟨sb, 0, none⟩ = some (.string S0) := hDw.cell 0
      have d1 : W2.cell? ⟨sb, 1, none⟩ = some (.string S1) := hDw.cell 1
      have ho0 : W2.ownsRow w.heap.size 62 5 vo (P0 ++ P1.take 0).length (cls (P0 ++ P1.take 0)) := by
        have := ho
        rw [List.take_of_length_le (by rw [HlP0.out]; exact Nat.le_refl _)] at this
        simpa using this
      clear ho
      have hCW2 := hCw
      have hBW2 := hBw
      have hDW2 := hDw
      clear hCw hBw hDw
      go_wp2
      rw [rounds_succ]
      go_wp2
      go_loopw [8, 10, 43] (fun v s i wr => ∃ (j : Nat) (vo : Value), vo = v ∧ j ≤ t.r.length ∧ i = .int .i64 j ∧ s = .string ⟨(encs (P1.drop j)).toArray⟩ ∧ wr.ownsRow w.heap.size 62 5 vo (P0 ++ P1.take j).length (cls (P0 ++ P1.take j)) ∧ Chg [] w wr ∧ Blk wr w.heap.size 37 (tbV t (.slice A1 t.k.length c1) (.slice A2 t.r.length c2)) ∧ Blk wr sb 9 #[.string S0, .string S1]) (fun _ _ i _ => t.r.length - (intOf i).toNat)
      case atStart => exact ⟨0, _, rfl, Nat.zero_le _, rfl, by rw [HS1.out]; rfl, by exact ho0.alloc _, hCW2.alloc _, hBW2.alloc _, hDW2.alloc _⟩
      case round =>
        obtain ⟨j, vo, rfl, hj, rfl, hs, ho, hCw, hBw, hDw⟩ := hrel
        by_cases hlt : j < t.r.length
        · have hjl : j < P1.length := by have := HlP1.out; omega
          obtain ⟨x, hx⟩ : ∃ x, P1[j]? = some x := ⟨_, List.getElem?_eq_getElem hjl⟩
          have hkx : t.r[j]? = some x.kd := by rw [← HkP1.out, List.getElem?_map, hx]; rfl
          obtain ⟨b, o, c', e, hcell⟩ := (h2.ext hCw).at_ j x.kd hkx
          injection e with e1 e2 e3
          subst e1 e3
          rw [encs_drop P1 j x hx] at hs
          subst hs
          have hxo : x.Ok := HoP1.out x (List.mem_of_getElem? hx)
          have hrl : (encs (P1.drop (j + 1))).length ≤ 1000 := by
            have := encs_len (l := P1.drop (j + 1)) (fun y hy => HoP1.out y (List.mem_of_mem_drop hy))
            have h2 := HlP1.out
            simp at this
            omega
          have hG1 := hG.chg hCw (by simp)
          have hDl : (P0 ++ P1.take j).length ≤ 100 := by have := HlP1.out; have := HlP0.out; simp; omega
          have Hx := Lib.hid hx
          clear hx hkx
          go_wp2_with (first
            | (go_at_call 90; refine (take_w x hxo _ hrl _ hG1).mono ?_; rintro e w5 ⟨rfl, hC5⟩)
            | (refine wpList_store_blk rfl 62 (.tmp 13) (.tmp 51) rfl w5.heap.size rfl x.cs rfl 62 _ (Blk.new w5 62 _) (cs_size x ▸ (by kernel_rfl)) (by rw [cs_size x]; rfl) (cs_one x) ?_; intro w6 hC6 hs6 hB6; have hC6w : Chg [] wr w6 := ((hC5.alloc _).on hC6 (fun i hi => .inr (by simp at hi; have := hC5.size; omega))); have ho6 := own_ext ho hC6w; clear hs6)
            | (refine wpList_load_row rfl 62 (.tmp 13) rfl w5.heap.size rfl 62 x.cs (0, 0) _ hB6 Tryz.underlying62 rfl (cs_size x ▸ (by kernel_rfl)) ?_)
            | (refine wpList_buildSlice_cl rfl (.tmp 57) rfl x rfl ?_)
            | (at_builtin; go_loud (refine wpList_append_cl rfl _ _ rfl w.heap.size vo (P0 ++ P1.take j) [x] rfl (ho6.alloc _) _ 1 rfl (Sl.ofCell (Blk.new _ 62 x.cs)) (Nat.succ_pos _) (Nat.le_trans hDl (by decide)) (Nat.le_add_left 1 1999) (by have := hCw.size; have := hC6w.size; simp; omega) ?_; intro v7 w7 ho7 hC7)))
          go_roundw
          case rel =>
            refine ⟨j + 1, v7, rfl, by omega, by go_num, rfl, ?_, ?_, ?_, ?_⟩
            · rw [take_one P1 j x Hx.out, ← List.append_assoc]; exact ho7
            · exact ((hCw.trans hC6w).alloc _).on hC7 (fun i hi => .inr (ho.lt i (by simpa using hi)).1)
            · exact ((hBw.ext hC6w).alloc _).chg hC7 (fun hm => own_ne ho hBw (by decide) (by simpa using hm) rfl)
            · exact ((hDw.ext hC6w).alloc _).chg hC7 (fun hm => own_ne ho hDw (by decide) (by simpa using hm) rfl)
          case measure => simp [intOf]; omega
        · obtain rfl : j = t.r.length := by omega
          have hoF : wr.ownsRow w.heap.size 62 5 vo l.length (cls l) := by
            have := ho
            rw [List.take_of_length_le (by rw [HlP1.out]; exact Nat.le_refl _), HPl.out] at this
            exact this
          clear ho
          have hGw := hG.chg hCw (by simp)
          have hov := fun k hk => (hoF.lt k hk).2
          have hrw := row_w t (.slice A1 t.k.length c1) (.slice A2 t.r.length c2) vo l wr hR (h1.ext hCw) (h2.ext hCw) (Sl.own hoF) hov hGw (by rw [← Hky.out]; exact hk24) (by rw [show rval t l = S1 by rw [HS1.out]; rw [← HPl.out, rval, List.drop_append_of_le_length (by rw [HlP0.out]; exact Nat.le_refl _), List.drop_eq_nil_of_le (by rw [HlP0.out]; exact Nat.le_refl _)]; rfl]; exact hv40)
          rw [← Hky.out, show rval t l = S1 by rw [HS1.out]; rw [← HPl.out, rval, List.drop_append_of_le_length (by rw [HlP0.out]; exact Nat.le_refl _), List.drop_eq_nil_of_le (by rw [HlP0.out]; exact Nat.le_refl _)]; rfl] at hrw
          have Hrw := Lib.hid hrw
          clear hrw
          go_wp2
          rw [rounds_succ]
          go_wp2_with (first
            | (refine wpList_load_row rfl 37 (.tmp 3) rfl w.heap.size rfl 37 _ (0, 0) _ hBw Tryz.underlying37 rfl (by kernel_rfl) ?_)
            | (go_at_call 11; refine (Hrw.out).mono ?_; rintro e w9 ⟨rfl, hC9⟩))
          go_ret2
          exact ⟨vo, rfl, own_ext hoF hC9, hCw.trans hC9⟩

end Go.Proofs.YtpcaadipejnllaaGreatDoor

/- The checker: the keys of a page; whether it is in its row. -/
set_option linter.unusedVariables false
set_option linter.unusedSimpArgs false
namespace Go.Proofs.YtpcaadipejnllaaGreatDoor
open Go.RowKit

section
variable {P : Program} {ops : Array Oper} {rest : List Oper} {o : Oper} {a : Act} {w : World} {Q : Exit → Act → World → Prop}
/-- An operation that is carried out, guarded or not. -/
theorem wpList_wanted (hw : Region.wanted o (yielded ops a.tmps) = true) (h : ∀ K : Act → World → Prop, (∀ a w, wpList P ops Q rest a w → K a w) → o.wp P a w K Q) : wpList P ops Q (o :: rest) a w :=
  wpList_step fun K hK => by rw [if_pos hw]; exact h K hK
theorem wpList_load_rowg (hw : Region.wanted o (yielded ops a.tmps) = true) (ty : TypeId) (x : Operand) (ho : o.op = .load ty x)
    (g : Nat) (hx : a.eval x = .pointer (some ⟨g, 0, none⟩)) (t : TypeId) (cs : Array Value) (fr : Nat × Nat) (d : TypeDesc) (hg : w.heap[g]? = some (.cells cs t fr))
    (hu : P.underlying ty = some d) (hd : (match d with | .struct _ | .array _ _ => true | _ => false) = true) (hi : (P.info? ty).map (·.size) = some cs.size)
    (h : wpList P ops Q rest (a.put o.dst (.agg cs)) w) : wpList P ops Q (o :: rest) a w :=
  wpList_wanted hw fun _ hK => wp_load_row ty x ho g hx t cs fr d hg hu hd hi (hK _ _ h)
end

set_option maxRecDepth 100000 in
set_option maxHeartbeats 1000000 in
theorem keys_leaf (pg : List Nat) (g : PG) (w : World) (hP : IsPage pg g) (hI : g.Inside) (h0 : g.lvl = 0) :
    Calls Tryz.prog 164 #[.agg (nums pg)] w fun e w' => e = .returned (.bool true) ∧ Chg [] w w' := by
  have hsz : (nums pg).size = 128 := by rw [nums_size]; exact hP.head.len
  have hB0 : Blk (w.alloc (.cells (nums pg) 72)) w.heap.size 72 (nums pg) := Blk.new _ _ _
  have hC0 : Chg [] w (w.alloc (.cells (nums pg) 72)) := (Chg.refl _ _).alloc _
  have hl : ((g.lvl : Int) == 0) = true := by rw [h0]; rfl
  go_enter Tryz.func164, Tryz.ntmps164
  go_wp2_with (first
    | (refine wpList_load_rowg (by rfl) 72 (.tmp 1) rfl w.heap.size rfl 72 (nums pg) (0, 0) _ hB2 Tryz.underlying72 rfl (hsz ▸ (by kernel_rfl)) ?_)
    | (refine wpList_load_rowg (by rfl) 72 (.tmp 1) rfl w.heap.size rfl 72 (nums pg) (0, 0) _ hB1 Tryz.underlying72 rfl (hsz ▸ (by kernel_rfl)) ?_)
    | (refine wpList_load_rowg (by rfl) 72 (.tmp 1) rfl w.heap.size rfl 72 (nums pg) (0, 0) _ hB0 Tryz.underlying72 rfl (hsz ▸ (by kernel_rfl)) ?_)
    | (go_at_call 192; refine (within_w pg g _ hP hI).mono ?_; rintro e w1 ⟨rfl, hC1⟩; have hB1 := hB0.ext hC1)
    | (go_at_call 193; refine (sortedb_w pg g _ hP).mono ?_; rintro e w2 ⟨rfl, hC2⟩; have hB2 := hB1.ext hC2)
    | (go_at_call 147; refine (level_w pg g _ hP).mono ?_; rintro e w3 ⟨rfl, hC3⟩))
  go_ret
  exact ⟨rfl, ((hC0.trans hC1).trans hC2).trans hC3⟩

set_option maxRecDepth 100000 in
set_option maxHeartbeats 1000000 in
theorem keys_inner (pg : List Nat) (g : PG) (x : Pr) (w : World) (hP : IsPage pg g) (hI : g.Inside) (h0 : 0 < g.lvl) (hx : g.l[0]? = some x) (hlow : x.1 = g.low) :
    Calls Tryz.prog 164 #[.agg (nums pg)] w fun e w' => e = .returned (.bool true) ∧ Chg [] w w' := by
  have hsz : (nums pg).size = 128 := by rw [nums_size]; exact hP.head.len
  have hB0 : Blk (w.alloc (.cells (nums pg) 72)) w.heap.size 72 (nums pg) := Blk.new _ _ _
  have hC0 : Chg [] w (w.alloc (.cells (nums pg) 72)) := (Chg.refl _ _).alloc _
  have hl : ((g.lvl : Int) == 0) = false := by rw [beq_eq_false_iff_ne]; omega
  have hk := fun w => key_w pg g 0 x w hP hx
  rw [hlow] at hk
  have Hk := Lib.hid hk
  clear hk hlow
  go_enter Tryz.func164, Tryz.ntmps164
  go_wp2_with (first
    | (refine wpList_load_rowg (by rfl) 72 (.tmp 1) rfl w.heap.size rfl 72 (nums pg) (0, 0) _ hB4 Tryz.underlying72 rfl (hsz ▸ (by kernel_rfl)) ?_)
    | (refine wpList_load_rowg (by rfl) 72 (.tmp 1) rfl w.heap.size rfl 72 (nums pg) (0, 0) _ hB3 Tryz.underlying72 rfl (hsz ▸ (by kernel_rfl)) ?_)
    | (refine wpList_load_rowg (by rfl) 72 (.tmp 1) rfl w.heap.size rfl 72 (nums pg) (0, 0) _ hB2 Tryz.underlying72 rfl (hsz ▸ (by kernel_rfl)) ?_)
    | (refine wpList_load_rowg (by rfl) 72 (.tmp 1) rfl w.heap.size rfl 72 (nums pg) (0, 0) _ hB1 Tryz.underlying72 rfl (hsz ▸ (by kernel_rfl)) ?_)
    | (refine wpList_load_rowg (by rfl) 72 (.tmp 1) rfl w.heap.size rfl 72 (nums pg) (0, 0) _ hB0 Tryz.underlying72 rfl (hsz ▸ (by kernel_rfl)) ?_)
    | (go_at_call 192; refine (within_w pg g _ hP hI).mono ?_; rintro e w1 ⟨rfl, hC1⟩; have hB1 := hB0.ext hC1)
    | (go_at_call 193; refine (sortedb_w pg g _ hP).mono ?_; rintro e w2 ⟨rfl, hC2⟩; have hB2 := hB1.ext hC2)
    | (go_at_call 147; refine (level_w pg g _ hP).mono ?_; rintro e w3 ⟨rfl, hC3⟩; have hB3 := hB2.ext hC3)
    | (go_at_call 145; refine (fences_w pg g _ hP).mono ?_; rintro e w4 ⟨rfl, hC4⟩; have hB4 := hB3.ext hC4)
    | (go_at_call 194; refine (Hk.out _).mono ?_; rintro e w5 ⟨rfl, hC5⟩))
  go_ret
  exact ⟨rfl, ((((hC0.trans hC1).trans hC2).trans hC3).trans hC4).trans hC5⟩

/-- What a met page is in memory. -/
def metV (n lvl : Int) (pg : List Nat) (f : Int) : Array Value := (Value.int .i64 n :: Value.int .i64 lvl :: ((nums pg).toList ++ [Value.int .i64 f])).toArray
theorem metV_size (n lvl : Int) (pg : List Nat) (f : Int) (h : pg.length = 128) : (metV n lvl pg f).size = 131 := by simp [metV, nums_size, h]
theorem metV_one (n lvl : Int) (pg : List Nat) (f : Int) : (metV n lvl pg f).all (·.oneCell') = true := by
  rw [Array.all_eq_true_iff_forall_mem]
  intro u hu
  simp only [metV, List.mem_toArray, List.mem_cons, List.mem_append, List.mem_nil_iff, or_false] at hu
  rcases hu with rfl | rfl | hu | rfl
  · rfl
  · rfl
  · exact nums_all pg u hu
  · rfl
theorem metV_flaw (n lvl : Int) (pg : List Nat) (f : Int) (h : pg.length = 128) : (metV n lvl pg f)[130]? = some (.int .i64 f) := by
  have hl : (nums pg).toList.length = 128 := by rw [Array.length_toList, nums_size, h]
  show (Value.int .i64 n :: Value.int .i64 lvl :: ((nums pg).toList ++ [Value.int .i64 f])).toArray[130]? = _
  rw [List.getElem?_toArray]
  show ((nums pg).toList ++ [Value.int .i64 f])[128]? = _
  rw [List.getElem?_append_right (by omega), hl]
  rfl
theorem metV_word (n lvl : Int) (pg : List Nat) (f : Int) (h : pg.length = 128) (j : Nat) (hj : j < 128) : (metV n lvl pg f)[2 + j]? = (nums pg).toList[j]? := by
  have hl : (nums pg).toList.length = 128 := by rw [Array.length_toList, nums_size, h]
  show (Value.int .i64 n :: Value.int .i64 lvl :: ((nums pg).toList ++ [Value.int .i64 f])).toArray[2 + j]? = _
  rw [List.getElem?_toArray, Nat.add_comm]
  show ((nums pg).toList ++ [Value.int .i64 f])[j]? = _
  rw [List.getElem?_append_left (by omega)]

set_option maxRecDepth 100000 in
set_option maxHeartbeats 1000000 in
theorem inrow_w (n lvl : Int) (pg : List Nat) (w : World) (h : pg.length = 128) :
    Calls Tryz.prog 131 #[.agg (metV n lvl pg 0)] w fun e w' => e = .returned (.bool true) ∧ Chg [] w w' := by
  have hf := metV_flaw n lvl pg 0 h
  have hB0 : Blk (w.alloc (.cells (metV n lvl pg 0) 175)) w.heap.size 175 (metV n lvl pg 0) := Blk.new _ _ _
  have hC0 : Chg [] w (w.alloc (.cells (metV n lvl pg 0) 175)) := (Chg.refl _ _).alloc _
  have c0 := hB0.cell 130
  rw [hf] at c0
  clear hf
  generalize hmv : metV n lvl pg 0 = mv at *
  clear hmv
  go_enter Tryz.func131, Tryz.ntmps131
  go_wp2
  go_ret
  exact ⟨rfl, hC0⟩

end Go.Proofs.YtpcaadipejnllaaGreatDoor
