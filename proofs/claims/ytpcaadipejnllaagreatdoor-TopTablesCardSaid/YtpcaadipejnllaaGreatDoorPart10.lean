/- The plain law of a tree: pairs put into a sorted list; leaves with fences. -/
import Derived.Test.YtpcaadipejnllaaGreatDoorPart06
import Derived.Test.YtpcaadipejnllaaGreatDoorPart09
import Derived.Lib.Replace
import Derived.Lib.ReplaceLaws
import Derived.Lib.CountLaws
import Derived.Lib.IndexLaws

set_option linter.unusedVariables false
set_option linter.unusedSimpArgs false
namespace Go.Proofs.YtpcaadipejnllaaGreatDoor
open Go.RowKit

/-- A pair put into a sorted list. -/
def ins (x : Pr) : List Pr → List Pr
  | [] => [x]
  | y :: l => if cmpS x.1 y.1 < 0 then x :: y :: l else if cmpS x.1 y.1 = 0 then x :: l else y :: ins x l

theorem ins_cons (x y : Pr) (l : List Pr) : ins x (y :: l) = if cmpS x.1 y.1 < 0 then x :: y :: l else if cmpS x.1 y.1 = 0 then x :: l else y :: ins x l := rfl
theorem ins_mem (x : Pr) : ∀ (l : List Pr) (y : Pr), y ∈ ins x l → y = x ∨ y ∈ l
  | [], y, h => by simp [ins] at h; exact .inl h
  | z :: l, y, h => by
    unfold ins at h
    split at h
    · rcases List.mem_cons.1 h with h | h
      · exact .inl h
      · exact .inr (by simp_all)
    · split at h
      · rcases List.mem_cons.1 h with h | h
        · exact .inl h
        · exact .inr (by simp_all)
      · rcases List.mem_cons.1 h with h | h
        · exact .inr (by simp [h])
        · rcases ins_mem x l y h with h | h
          · exact .inl h
          · exact .inr (by simp [h])

theorem Srt.tail {x : Pr} {l : List Pr} (h : Srt (x :: l)) : Srt l := fun i j a b hij ha hb => h (i + 1) (j + 1) a b (by omega) (by simpa using ha) (by simpa using hb)
theorem Srt.head {x : Pr} {l : List Pr} (h : Srt (x :: l)) {y : Pr} (hy : y ∈ l) : cmpS x.1 y.1 < 0 := by
  obtain ⟨j, hj⟩ := List.mem_iff_getElem?.1 hy
  exact h 0 (j + 1) x y (by omega) rfl (by simpa using hj)
theorem Srt.cons {x : Pr} {l : List Pr} (h : Srt l) (hx : ∀ y ∈ l, cmpS x.1 y.1 < 0) : Srt (x :: l) := by
  intro i j a b hij ha hb
  match i, j, hij, ha, hb with
  | 0, j + 1, _, ha, hb =>
    simp at ha hb
    subst ha
    exact hx b (List.mem_of_getElem? hb)
  | i + 1, j + 1, hij, ha, hb => exact h i j a b (by omega) (by simpa using ha) (by simpa using hb)
theorem Srt.nil : Srt [] := fun i j a b _ ha _ => by simp at ha
theorem Srt.ins {x : Pr} : ∀ {l : List Pr}, Srt l → Srt (ins x l)
  | [], _ => by
    unfold YtpcaadipejnllaaGreatDoor.ins
    exact Srt.nil.cons (by simp)
  | y :: l, h => by
    unfold YtpcaadipejnllaaGreatDoor.ins
    split
    · rename_i h1
      refine h.cons fun z hz => ?_
      rcases List.mem_cons.1 hz with e | hz
      · rw [e]; exact h1
      · exact cmp_trans h1 (h.head hz)
    · split
      · rename_i h1 h2
        have e := cmp_eq0 h2
        refine h.tail.cons fun z hz => ?_
        rw [e]; exact h.head hz
      · rename_i h1 h2
        refine (Srt.ins h.tail).cons fun z hz => ?_
        rcases ins_mem x l z hz with e | hz
        · rw [e, cmp_anti]; omega
        · exact h.head hz
theorem Srt.appL {l m : List Pr} (h : Srt (l ++ m)) : Srt l := fun i j a b hij ha hb => h i j a b hij (by rw [List.getElem?_append_left (List.getElem?_eq_some_iff.1 ha).1]; exact ha) (by rw [List.getElem?_append_left (List.getElem?_eq_some_iff.1 hb).1]; exact hb)
theorem Srt.appR {l m : List Pr} (h : Srt (l ++ m)) : Srt m := fun i j a b hij ha hb => h (l.length + i) (l.length + j) a b (by omega) (by rw [List.getElem?_append_right (by omega), Nat.add_sub_cancel_left]; exact ha) (by rw [List.getElem?_append_right (by omega), Nat.add_sub_cancel_left]; exact hb)
theorem Srt.sep {l m : List Pr} (h : Srt (l ++ m)) {a b : Pr} (ha : a ∈ l) (hb : b ∈ m) : cmpS a.1 b.1 < 0 := by
  obtain ⟨i, hi⟩ := List.mem_iff_getElem?.1 ha
  obtain ⟨j, hj⟩ := List.mem_iff_getElem?.1 hb
  have := (List.getElem?_eq_some_iff.1 hi).1
  exact h i (l.length + j) a b (by omega) (by rw [List.getElem?_append_left this]; exact hi) (by rw [List.getElem?_append_right (by omega), Nat.add_sub_cancel_left]; exact hj)
theorem Srt.app {l m : List Pr} (h1 : Srt l) (h2 : Srt m) (h : ∀ a ∈ l, ∀ b ∈ m, cmpS a.1 b.1 < 0) : Srt (l ++ m) := by
  induction l with
  | nil => exact h2
  | cons x l ih =>
    refine (ih h1.tail (fun a ha b hb => h a (by simp [ha]) b hb)).cons fun y hy => ?_
    rcases List.mem_append.1 hy with hy | hy
    · exact h1.head hy
    · exact h x (by simp) y hy
theorem Srt.step {l : List Pr} (h : Srt l) (k : Nat) (x y : Pr) (hx : l[k]? = some x) (hy : l[k + 1]? = some y) : cmpS x.1 y.1 < 0 := h k (k + 1) x y (by omega) hx hy

/-- Put at its place. -/
def insAt (l : List Pr) (x : Pr) (i : Nat) (is : Bool) : List Pr := if is then l.set i x else l.take i ++ x :: l.drop i
theorem place_ins {l : List Pr} {x : Pr} : ∀ {i : Nat} {is : Bool}, PlaceAt l x.1 i is → insAt l x i is = ins x l := by
  induction l with
  | nil =>
    intro i is h
    have h1 := h.le
    have : is = false := by
      cases is with
      | false => rfl
      | true => obtain ⟨y, hy, _⟩ := h.met.1 rfl; simp at hy
    subst this
    have : i = 0 := by simpa using h1
    subst this
    rfl
  | cons y l ih =>
    intro i is h
    match i, h with
    | 0, h =>
      have h1 := h.hi 0 y (Nat.le_refl _) rfl
      have h2 := cmp_anti y.1 x.1
      cases is with
      | true =>
        obtain ⟨z, hz, he⟩ := h.met.1 rfl
        simp at hz
        subst hz
        have : cmpS x.1 y.1 = 0 := by rw [he]; exact cmp_refl _
        simp [insAt, ins, this]
      | false =>
        have h3 : cmpS x.1 y.1 ≠ 0 := fun e => by
          have := h.met.2 ⟨y, rfl, (cmp_eq0 e).symm⟩
          cases this
        have h4 : cmpS x.1 y.1 < 0 := by omega
        simp [insAt, ins, h4]
    | i + 1, h =>
      have h1 := h.lo 0 y (by omega) rfl
      have h2 := cmp_anti y.1 x.1
      have hP : PlaceAt l x.1 i is := ⟨by have := h.le; simp at this; omega, fun j z hj hz => h.lo (j + 1) z (by omega) (by simpa using hz), fun j z hj hz => h.hi (j + 1) z (by omega) (by simpa using hz), by
        rw [h.met]; simp⟩
      have h3 := ih hP
      have e : insAt (y :: l) x (i + 1) is = y :: insAt l x i is := by
        cases is <;> simp [insAt]
      rw [e, h3, ins_cons, if_neg (by omega), if_neg (by omega)]

theorem ins_app {x : Pr} {A l B : List Pr} (hA : ∀ y ∈ A, cmpS y.1 x.1 < 0) (hB : ∀ y ∈ B, cmpS x.1 y.1 < 0) : ins x (A ++ (l ++ B)) = A ++ (ins x l ++ B) := by
  induction A with
  | nil =>
    simp only [List.nil_append]
    induction l with
    | nil =>
      cases B with
      | nil => rfl
      | cons y B => simp [ins, hB y (by simp)]
    | cons y l ih =>
      simp only [List.cons_append]
      unfold ins
      split
      · rfl
      · split
        · rfl
        · rw [ih]; rfl
  | cons y A ih =>
    simp only [List.cons_append]
    have h1 := hA y (by simp)
    have h2 := cmp_anti y.1 x.1
    rw [← ih (fun z hz => hA z (by simp [hz]))]
    conv => lhs; unfold ins
    rw [if_neg (by omega), if_neg (by omega)]

theorem ins_len (x : Pr) (l : List Pr) : l.length ≤ (ins x l).length ∧ (ins x l).length ≤ l.length + 1 := by
  induction l with
  | nil => simp [ins]
  | cons y l ih =>
    unfold ins
    split
    · simp
    · split
      · simp
      · simp; omega
theorem ins_load (x : Pr) (l : List Pr) : load (ins x l) ≤ load l + costP x := by
  induction l with
  | nil => simp [ins, load]
  | cons y l ih =>
    have e : ∀ (z : Pr) (m : List Pr), load (z :: m) = costP z + load m := fun z m => by simp [load]
    unfold ins
    split
    · rw [e]; omega
    · split
      · rw [e, e]; omega
      · rw [e, e]; omega

/-! The half of a list. -/
theorem half_close {l : List Pr} (hO : OkS l) {k : Nat} (hH : HalfAt l k) (h20 : 20 ≤ load l) : dst l k ≤ 9 := by
  have key : ∃ i, 1 ≤ i ∧ i < l.length ∧ dst l i ≤ 9 := by
    -- the first place whose sum is at least a half
    have hlen : 2 ≤ l.length := by have := hH.lt; have := hH.pos; omega
    have hst : ∀ i x, l[i]? = some x → load (l.take (i + 1)) = load (l.take i) + costP x ∧ costP x ≤ 9 := fun i x hx => by
      refine ⟨by rw [List.take_add_one, hx, load_app, ← load_one]; rfl, costP_le (hO x (List.mem_of_getElem? hx))⟩
    have hall : load (l.take l.length) = load l := by rw [List.take_length]
    have h0 : load (l.take 0) = 0 := by simp [load]
    have : ∀ n, n ≤ l.length → (2 * load (l.take n) < load l) ∨ ∃ i, 1 ≤ i ∧ i ≤ n ∧ load l ≤ 2 * load (l.take i) ∧ 2 * load (l.take (i - 1)) < load l := by
      intro n
      induction n with
      | zero => intro _; left; rw [h0]; omega
      | succ n ih =>
        intro hn
        rcases ih (by omega) with h | ⟨i, h1, h2, h3, h4⟩
        · by_cases h5 : 2 * load (l.take (n + 1)) < load l
          · exact .inl h5
          · exact .inr ⟨n + 1, by omega, Nat.le_refl _, by omega, by simpa using h⟩
        · exact .inr ⟨i, h1, by omega, h3, h4⟩
    rcases this l.length (Nat.le_refl _) with h | ⟨i, h1, h2, h3, h4⟩
    · rw [hall] at h; omega
    · obtain ⟨x, hx⟩ : ∃ x, l[i - 1]? = some x := ⟨_, List.getElem?_eq_getElem (by omega)⟩
      obtain ⟨e1, e2⟩ := hst (i - 1) x hx
      rw [show i - 1 + 1 = i by omega] at e1
      by_cases h6 : load l + 9 ≥ 2 * load (l.take i)
      · by_cases h7 : i < l.length
        · exact ⟨i, h1, h7, by unfold dst; omega⟩
        · have : i = l.length := by omega
          rw [this, hall] at h6
          omega
      · refine ⟨i - 1, ?_, by omega, by unfold dst; omega⟩
        rcases Nat.eq_or_lt_of_le h1 with h8 | h8
        · rw [← h8] at e1 h6
          simp only [Nat.sub_self, h0] at e1
          omega
        · omega
  obtain ⟨i, h1, h2, h3⟩ := key
  exact Nat.le_trans (hH.min i h1 h2) h3
theorem half_loads {l : List Pr} (hO : OkS l) {k : Nat} (hH : HalfAt l k) (h1 : 109 ≤ load l) (h2 : load l ≤ 200) : 36 ≤ load (l.take k) ∧ load (l.take k) ≤ 108 ∧ 36 ≤ load (l.drop k) ∧ load (l.drop k) ≤ 108 := by
  have h := half_close hO hH (by omega)
  have e : load l = load (l.take k) + load (l.drop k) := by rw [← load_app, List.take_append_drop]
  unfold dst at h
  omega

end Go.Proofs.YtpcaadipejnllaaGreatDoor

/- The plain map: its reads, Put, Delete, Copy. -/
set_option linter.unusedVariables false
set_option linter.unusedSimpArgs false
namespace Go.Proofs.YtpcaadipejnllaaGreatDoor
open Go.RowKit

theorem prs_cells1 (l : List Pr) : ∀ u ∈ prs l, u.oneCell' = true := by
  intro u hu
  simp [prs] at hu
  obtain ⟨a, b, _, rfl | rfl⟩ := hu <;> rfl

set_option maxRecDepth 100000 in
set_option maxHeartbeats 1000000 in
theorem clone94_w (l : List Pr) (v : Value) (base : Nat) (w : World) (hown : w.ownsRow base 93 2 v l.length (prs l)) (hlen : l.length ≤ 1000) :
    Calls Tryz.prog 85 #[v] w fun e w' => ∃ v', e = .returned v' ∧ w'.ownsRow w.heap.size 93 2 v' l.length (prs l) ∧ Chg [] w w' := by
  obtain ⟨i0, hi, hz0, hz1, hz2⟩ := info_parts info93
  obtain ⟨hll, h2⟩ := id hown
  have qN := fun (w : World) a n c n' c' => Lib.run_eql_slice_nil (P := Tryz.prog) w 94 93 a n c n' c' Tryz.underlying94
  rcases h2 with ⟨rfl, h0⟩ | ⟨g, c, cur, rfl, hbg, hg', hn, hm, hz, ht⟩
  · go_enter Tryz.func85, Tryz.ntmps85
    go_wp2
    go_ret
    have hl0 : l = [] := List.eq_nil_of_length_eq_zero h0
    subst hl0
    exact ⟨_, rfl, World.ownsRow_nil _ _ _ _, Chg.refl _ _⟩
  · have hg : Blk w g 93 cur := hg'
    have hgl := hg.lt
    have hS := Sl.own hown
    clear hown hg'
    go_enter Tryz.func85, Tryz.ntmps85
    go_wp2_with (first
      | (at_builtin; refine wpList_append_own _ rfl _ _ 94 rfl w.heap.size 93 i0 (.agg #[.string ⟨#[]⟩, .string ⟨#[]⟩]) 2 32 Tryz.underlying94 hi hz0 hz1 hz2 rfl (by decide) _ 0 [] rfl ?c0 ⟨g, 0, none⟩ l.length c (prs l) rfl (prs_len l) ?c1 (prs_cells1 l) (by unfold maxLen; omega) (by omega) ?c2 ?c3))
    case c0 => exact World.ownsRow_made w #[] 0 (Nat.le_refl _) (by unfold maxLen; omega) (by simp)
    case c1 =>
      intro j u hj
      rw [Addr.add_mid, Nat.zero_add, (hg.alloc _).cell]
      rw [← ht, List.getElem?_take] at hj
      split at hj
      · rw [← Array.getElem?_toList]; exact hj
      · cases hj
    case c2 => simp
    case c3 =>
      intro v' w' hown' hg2 _
      have hC : Chg [] w w' := ((Chg.refl _ _).alloc _).grown hg2 (by intro k hk; simp [Value.ownBlock] at hk; omega)
      go_wp2
      go_ret
      exact ⟨_, rfl, by simpa using hown', hC⟩

structure ModV (w : World) (mb base : Nat) (v : Value) (l : List Pr) : Prop where
  bs : base ≤ w.heap.size
  b : Blk w mb 135 #[v]
  o : w.ownsRow base 93 2 v l.length (prs l)
  s : Srt l
  n : l.length ≤ 900

section
variable {w w' : World} {mb base : Nat} {v : Value} {l : List Pr}
theorem ModV.ne (h : ModV w mb base v l) : ∀ k, v.ownBlock = some k → mb ≠ k := fun k hk => (own_ne h.o h.b (by decide) hk).symm
theorem ModV.chg {S : List Nat} (h : ModV w mb base v l) (hC : Chg S w w') (h1 : mb ∉ S) (h2 : ∀ k, v.ownBlock = some k → k ∉ S) : ModV w' mb base v l := ⟨Nat.le_trans h.bs hC.size, h.b.chg hC h1, own_chg h.o hC h2, h.s, h.n⟩
theorem ModV.ext (h : ModV w mb base v l) (hC : Chg [] w w') : ModV w' mb base v l := h.chg hC (by simp) (by simp)
end

set_option maxRecDepth 100000 in
set_option maxHeartbeats 1000000 in
theorem mcopy_w (mb base : Nat) (v : Value) (l : List Pr) (w : World) (h : ModV w mb base v l) :
    Calls Tryz.prog 37 #[.pointer (some ⟨mb, 0, none⟩)] w fun e w' => ∃ mb' v', e = .returned (.pointer (some ⟨mb', 0, none⟩)) ∧ w.heap.size ≤ mb' ∧ ModV w' mb' w.heap.size v' l ∧ Chg [] w w' := by
  have hc := h.b.cell 0
  have hn := h.n
  go_enter Tryz.func37, Tryz.ntmps37
  go_wp2_with (go_at_call 85; refine (clone94_w l v base _ h.o (by omega)).mono ?_; rintro e w1 ⟨v', rfl, ho, hC⟩; obtain ⟨A', c', rfl, _, _⟩ := (Sl.own ho).form)
  go_ret
  exact ⟨_, _, rfl, hC.size, ⟨by have := hC.size; simp; omega, Blk.new w1 135 _, ho.alloc _, h.s, h.n⟩, hC.alloc _⟩

set_option maxRecDepth 100000 in
set_option maxHeartbeats 1000000 in
theorem mpairs_w (mb base : Nat) (v : Value) (l : List Pr) (w : World) (h : ModV w mb base v l) :
    Calls Tryz.prog 91 #[.pointer (some ⟨mb, 0, none⟩)] w fun e w' => ∃ v', e = .returned v' ∧ w'.ownsRow w.heap.size 93 2 v' l.length (prs l) ∧ Chg [] w w' := by
  have hc := h.b.cell 0
  have hn := h.n
  go_enter Tryz.func91, Tryz.ntmps91
  go_wp2_with (go_at_call 85; refine (clone94_w l v base _ h.o (by omega)).mono ?_; rintro e w1 ⟨v', rfl, ho, hC⟩)
  go_ret
  exact ⟨v', rfl, ho, hC⟩

set_option maxRecDepth 100000 in
set_option maxHeartbeats 1000000 in
theorem mlen_w (mb base : Nat) (v : Value) (l : List Pr) (w : World) (h : ModV w mb base v l) :
    Calls Tryz.prog 41 #[.pointer (some ⟨mb, 0, none⟩)] w fun e w' => e = .returned (.int .i64 l.length) ∧ w = w' := by
  have hc := h.b.cell 0
  obtain ⟨A, c, rfl, hc1, hc2⟩ := (Sl.own h.o).form
  go_enter Tryz.func41, Tryz.ntmps41
  go_wp2
  go_ret
  exact ⟨rfl, rfl⟩

set_option maxRecDepth 100000 in
set_option maxHeartbeats 1000000 in
theorem mplace_w (mb base : Nat) (v : Value) (l : List Pr) (key : ByteArray) (w : World) (h : ModV w mb base v l) :
    Calls Tryz.prog 120 #[.pointer (some ⟨mb, 0, none⟩), .string key] w fun e w' => ∃ (i : Nat) (is : Bool), e = .returned (.tuple #[.int .i64 i, .bool is]) ∧ PlaceAt l key i is ∧ Chg [] w w' := by
  have hc := h.b.cell 0
  have hn := h.n
  go_enter Tryz.func120, Tryz.ntmps120
  go_wp2_with (go_at_call 82; refine (bsearch158_w l key v _ (Sl.own h.o) h.s (by omega)).mono ?_; rintro e w1 ⟨i, is, rfl, hP, hC⟩)
  go_ret2
  exact ⟨i, is, rfl, hP, hC⟩

set_option maxRecDepth 100000 in
set_option maxHeartbeats 1000000 in
theorem mcheck1_w (v : ByteArray) (w : World) (hv : v.size ≤ 40) :
    Calls Tryz.prog 159 #[.string v] w fun e w' => e = .returned (.bool false) ∧ w = w' := by
  have hd : decide ((40 : Int) < (v.size : Int)) = false := decide_eq_false (by omega)
  go_enter Tryz.func159, Tryz.ntmps159
  go_wp2
  go_ret
  exact ⟨rfl, rfl⟩

set_option maxRecDepth 100000 in
set_option maxHeartbeats 1000000 in
theorem mindex1 (v : ByteArray) (b : Nat) (w : World) (hv : v.size ≤ 40) (hB : w.cell? ⟨b, 0, none⟩ = some (.string v)) :
    Calls Tryz.prog 113 #[.slice (some ⟨b, 0, none⟩) 1 1, .func (.func 159) #[] #[]] w fun e w' => e = .returned (.int .i64 (-1)) ∧ w = w' := by
  go_enter Tryz.func113, Tryz.ntmps113
  go_wp2
  refine wp_loop_rounds 2 ?_
  rw [rounds_succ]
  go_wp2_with (go_at_call 159; refine (mcheck1_w v _ hv).mono ?_; rintro e w1 ⟨rfl, rfl⟩)
  rw [rounds_succ]
  go_wp2
  go_ret
  exact ⟨rfl, rfl⟩

set_option maxRecDepth 100000 in
set_option maxHeartbeats 1000000 in
theorem mindex0 (w : World) :
    Calls Tryz.prog 113 #[.slice none 0 0, .func (.func 159) #[] #[]] w fun e w' => e = .returned (.int .i64 (-1)) ∧ w = w' := by
  go_enter Tryz.func113, Tryz.ntmps113
  go_wp2
  refine wp_loop_rounds 1 ?_
  rw [rounds_succ]
  go_wp2
  go_ret
  exact ⟨rfl, rfl⟩

/-- Values that a map takes, as the slice that is handed on. -/
def ValsAt (w : World) (vs : Value) : Prop := vs = .slice none 0 0 ∨ ∃ (b : Nat) (v : ByteArray), vs = .slice (some ⟨b, 0, none⟩) 1 1 ∧ v.size ≤ 40 ∧ w.cell? ⟨b, 0, none⟩ = some (.string v)

set_option maxRecDepth 100000 in
set_option maxHeartbeats 1000000 in
theorem mcontains_w (vs : Value) (w : World) (hv : ValsAt w vs) :
    Calls Tryz.prog 77 #[vs, .func (.func 159) #[] #[]] w fun e w' => e = .returned (.bool false) ∧ w = w' := by
  rcases hv with rfl | ⟨b, v, rfl, hv, hB⟩
  · go_enter Tryz.func77, Tryz.ntmps77
    go_wp2_with (go_at_call 113; refine (mindex0 _).mono ?_; rintro e w1 ⟨rfl, rfl⟩)
    go_ret
    exact ⟨rfl, rfl⟩
  · go_enter Tryz.func77, Tryz.ntmps77
    go_wp2_with (go_at_call 113; refine (mindex1 v b _ hv hB).mono ?_; rintro e w1 ⟨rfl, rfl⟩)
    go_ret
    exact ⟨rfl, rfl⟩

set_option maxRecDepth 100000 in
set_option maxHeartbeats 1000000 in
theorem modcheck_w (key : ByteArray) (vs : Value) (w : World) (h0 : 0 < key.size) (h24 : key.size ≤ 24) (hv : ValsAt w vs) :
    Calls Tryz.prog 122 #[.string key, vs] w fun e w' => e = .returned (.int .i64 0) ∧ w = w' := by
  have hd : key.toList.isEmpty = false := nonemp h0
  have hd2 : decide ((24 : Int) < (key.size : Int)) = false := decide_eq_false (by omega)
  go_enter Tryz.func122, Tryz.ntmps122
  go_wp2_with (first
    | (go_at_call 77; refine (mcontains_w vs _ hv).mono ?_; rintro e w1 ⟨rfl, rfl⟩))
  go_ret
  exact ⟨rfl, rfl⟩

set_option maxRecDepth 100000 in
set_option maxHeartbeats 1000000 in
theorem mat_w (mb base : Nat) (v : Value) (l : List Pr) (key : ByteArray) (vs : Value) (w : World) (h : ModV w mb base v l) (h0 : 0 < key.size) (h24 : key.size ≤ 24) (hv : ValsAt w vs) :
    Calls Tryz.prog 87 #[.pointer (some ⟨mb, 0, none⟩), .string key, vs] w fun e w' => ∃ (i : Nat) (is : Bool), e = .returned (.tuple #[.int .i64 i, .bool is, .int .i64 0]) ∧ PlaceAt l key i is ∧ Chg [] w w' := by
  go_enter Tryz.func87, Tryz.ntmps87
  go_wp2_with (first
    | (go_at_call 122; refine (modcheck_w key vs _ h0 h24 hv).mono ?_; rintro e w1 ⟨rfl, rfl⟩)
    | (go_at_call 120; refine (mplace_w mb base v l key _ h).mono ?_; rintro e w1 ⟨i, is, rfl, hP, hC⟩))
  exact bodyPost_ret (results_tmp3 rfl _ _ _) rfl ⟨i, is, rfl, hP, hC⟩

end Go.Proofs.YtpcaadipejnllaaGreatDoor

/- The plain map: Put, Delete. -/
set_option linter.unusedVariables false
set_option linter.unusedSimpArgs false
namespace Go.Proofs.YtpcaadipejnllaaGreatDoor
open Go.RowKit

theorem PlaceAt.find {l : List Pr} {key val : ByteArray} {i : Nat} {is : Bool} (h : PlaceAt l key i is) (hs : Srt l) (hm : (key, val) ∈ l) : is = true ∧ l[i]? = some (key, val) := by
  obtain ⟨j, hj⟩ := List.mem_iff_getElem?.1 hm
  have h1 : i ≤ j := by
    rcases Nat.lt_or_ge j i with c | c
    · have := h.lo j _ c hj
      rw [cmp_refl] at this
      omega
    · exact c
  have h2 : ¬ i < j := fun c => by
    have hl := (List.getElem?_eq_some_iff.1 hj).1
    have hi : l[i]? = some l[i] := List.getElem?_eq_getElem (by omega)
    have a := hs i j _ _ c hi hj
    have b := h.hi i _ (Nat.le_refl _) hi
    have a : cmpS l[i].1 key < 0 := a
    omega
  obtain rfl : i = j := by omega
  exact ⟨h.met.2 ⟨_, hj, rfl⟩, hj⟩

theorem PlaceAt.gone {l : List Pr} {key : ByteArray} {i : Nat} {is : Bool} (h : PlaceAt l key i is) (hm : ∀ x ∈ l, x.1 ≠ key) : is = false := by
  cases is with
  | false => rfl
  | true =>
    obtain ⟨y, hy, e⟩ := h.met.1 rfl
    exact absurd e (hm y (List.mem_of_getElem? hy))

set_option maxRecDepth 100000 in
set_option maxHeartbeats 1000000 in
theorem mget_some (mb base : Nat) (v : Value) (l : List Pr) (key val : ByteArray) (w : World) (h : ModV w mb base v l) (h0 : 0 < key.size) (h24 : key.size ≤ 24) (hm : (key, val) ∈ l) :
    Calls Tryz.prog 40 #[.pointer (some ⟨mb, 0, none⟩), .string key] w fun e w' => e = .returned (.tuple #[.string val, .int .i64 0]) ∧ Chg [] w w' := by
  have hS := Sl.own h.o
  obtain ⟨A, c, rfl, hc1, hc2⟩ := hS.form
  have hpos : 0 < l.length := List.length_pos_of_mem hm
  go_enter Tryz.func40, Tryz.ntmps40
  go_wp2_with (first
    | (go_at_call 87; refine (mat_w mb base _ l key _ _ h h0 h24 (.inl rfl)).mono ?_; rintro e w1 ⟨i, is, rfl, hP, hC⟩; obtain ⟨rfl, hx⟩ := hP.find h.s hm; have hc := (h.ext hC).b.cell 0; obtain ⟨s, o, rfl, hs, hx'⟩ := (hS.ext hC).at_ hpos; have hil := (List.getElem?_eq_some_iff.1 hx).1; obtain ⟨g1, g2⟩ := prs_get l i _ hx; have d2 := hx' (i * 2 + 1) (by omega); rw [g2, ← Nat.add_assoc] at d2; clear hx' hx g1 g2))
  go_ret2
  exact ⟨rfl, hC⟩

set_option maxRecDepth 100000 in
set_option maxHeartbeats 1000000 in
theorem mget_none (mb base : Nat) (v : Value) (l : List Pr) (key : ByteArray) (w : World) (h : ModV w mb base v l) (h0 : 0 < key.size) (h24 : key.size ≤ 24) (hm : ∀ x ∈ l, x.1 ≠ key) :
    Calls Tryz.prog 40 #[.pointer (some ⟨mb, 0, none⟩), .string key] w fun e w' => e = .returned (.tuple #[.string ⟨#[]⟩, .int .i64 9]) ∧ Chg [] w w' := by
  go_enter Tryz.func40, Tryz.ntmps40
  go_wp2_with (first
    | (go_at_call 87; refine (mat_w mb base _ l key _ _ h h0 h24 (.inl rfl)).mono ?_; rintro e w1 ⟨i, is, rfl, hP, hC⟩; obtain rfl := hP.gone hm))
  go_ret2
  exact ⟨rfl, hC⟩

theorem ModV.turn {w w' w2 : World} {mb base : Nat} {v v' : Value} {l l' : List Pr} {S : List Nat} (h : ModV w mb base v l) (hC : Chg S w w') (hw : w'.ownsRow base 93 2 v' l'.length (prs l')) (hb : Blk w' mb 135 #[v']) (hs : Srt l') (hn : l'.length ≤ 900) : ModV w' mb base v' l' := ⟨Nat.le_trans h.bs hC.size, hb, hw, hs, hn⟩

set_option maxRecDepth 100000 in
set_option maxHeartbeats 1000000 in
theorem mset_w (mb base : Nat) (v : Value) (l : List Pr) (x : Pr) (i : Nat) (w : World) (h : ModV w mb base v l) (hP : PlaceAt l x.1 i false) (hn : l.length + 1 ≤ 900) :
    Calls Tryz.prog 88 #[.pointer (some ⟨mb, 0, none⟩), .int .i64 i, .bool false, .agg #[.string x.1, .string x.2]] w fun e w' => ∃ v', e = .returned (.int .i64 0) ∧ ModV w' mb base v' (ins x l) ∧ Chg (mb :: v.ownBlock.toList) w w' := by
  have hS := Sl.own h.o
  have hne := h.ne
  have hc := (h.b.alloc (.cells #[.string x.1, .string x.2] 93)).cell 0
  obtain ⟨A, c, rfl, hc1, hc2⟩ := hS.form
  have hne2 : ((l.length : Int) == 20000) = false := by rw [beq_eq_false_iff_ne]; omega
  go_enter Tryz.func88, Tryz.ntmps88
  go_upto_region 1 with (fail)
  have hX : Blk (w.alloc (.cells #[.string x.1, .string x.2] 93)) w.heap.size 93 #[.string x.1, .string x.2] := Blk.new _ _ _
  have hC0 : Chg [] w (w.alloc (.cells #[.string x.1, .string x.2] 93)) := (Chg.refl _ _).alloc _
  have hM := h.ext hC0
  have hle := hP.le
  have hwl := h.b.lt
  have hvl := fun k hk => (h.o.lt k hk).2
  have hs1 : (w.alloc (.cells #[.string x.1, .string x.2] 93)).heap.size = w.heap.size + 1 := by simp
  obtain ⟨W, hW⟩ : ∃ W, W = w.alloc (.cells #[.string x.1, .string x.2] 93) := ⟨_, rfl⟩
  rw [← hW] at hX hC0 hM hc hs1 ⊢
  clear hW h hS
  obtain ⟨xb, hxb⟩ : ∃ xb, xb = w.heap.size := ⟨_, rfl⟩
  rw [← hxb] at hX hs1 hwl hvl ⊢
  clear hxb
  have hc2 : W.drew.cell? ⟨mb, 0, none⟩ = _ := hc
  have hMo := (hM.o.alloc (.cells #[.string x.1, .string x.2] 93)).drew
  have hXn : Blk ((W.alloc (.cells #[.string x.1, .string x.2] 93)).drew) (xb + 1) 93 #[.string x.1, .string x.2] := (Blk.newEq hs1.symm).drew
  have hX5 := (hX.alloc (.cells #[.string x.1, .string x.2] 93)).drew
  have hM5 := (hM.b.alloc (.cells #[.string x.1, .string x.2] 93)).drew
  have hMs : base ≤ ((W.alloc (.cells #[.string x.1, .string x.2] 93)).drew).heap.size := by have := hM.bs; show base ≤ (W.alloc _).heap.size; simp; omega
  have hfin : ∀ v2 w2 w3, w2.ownsRow base 93 2 v2 (l.take i ++ x :: l.drop i).length (prs (l.take i ++ x :: l.drop i)) → Chg (Value.slice A l.length c).ownBlock.toList ((W.alloc (.cells #[.string x.1, .string x.2] 93)).drew) w2 → Chg [mb] w2 w3 → Blk w3 mb 135 #[v2] → ModV w3 mb base v2 (ins x l) ∧ Chg (mb :: (Value.slice A l.length c).ownBlock.toList) w w3 := fun v2 w2 w3 ho2 hC2 hC3 hB3 => by
    have e : l.take i ++ x :: l.drop i = ins x l := place_ins hP
    have hll := ins_len x l
    rw [e] at ho2
    have hC : Chg (mb :: (Value.slice A l.length c).ownBlock.toList) w w3 := (((hC0.mono (by simp)).trans ((((Chg.refl _ W).alloc _).drew).trans (hC2.mono (fun k hk => List.mem_cons_of_mem _ hk)))).trans (hC3.mono (by simp)))
    have ho3 := own_chg ho2 hC3 (fun k hk hm => own_ne ho2 ((hM.b.alloc (.cells #[.string x.1, .string x.2] 93)).drew.chg hC2 (fun hk => hne _ (by simpa using hk) rfl)) (by decide) hk (by simpa using hm))
    exact ⟨⟨by have := hM.bs; have := hC2.size; have := hC3.size; have h4 : (W.alloc (.cells #[.string x.1, .string x.2] 93)).drew.heap.size = W.heap.size + 1 := (by show (W.alloc _).heap.size = _; simp); omega, hB3, ho3, hM.s.ins, by omega⟩, hC⟩
  refine wp_region_held_drew (S := fun W => Blk W xb 93 #[.string x.1, .string x.2]) (by kernel_rfl) (hX.drew) (fun hH => ?_)
  refine wpAnyH_take (i := 0) (v := .pointer (some ⟨mb, 0, none⟩)) rfl (by kernel_rfl) (by kernel_rfl) (by kernel_rfl) (fun _ _ _ h => h) (Or.inl ⟨by rfl, fun w' hw' => by go_simp⟩) hH ?_
  try simp only [List.getElem_toArray, List.getElem_cons_succ, List.getElem_cons_zero, Act.put, List.setIfInBounds_toArray, List.set_cons_zero, List.set_cons_succ]
  refine wpAnyH_take (i := 1) (v := .pointer (some ⟨mb, 0, none⟩)) rfl (by kernel_rfl) (by kernel_rfl) (by kernel_rfl) (fun _ _ _ h => h) (Or.inl ⟨by rfl, fun w' hw' => by go_simp⟩) hH ?_
  try simp only [List.getElem_toArray, List.getElem_cons_succ, List.getElem_cons_zero, Act.put, List.setIfInBounds_toArray, List.set_cons_zero, List.set_cons_succ]
  refine wpAnyH_take (i := 2) (v := .pointer (some ⟨mb, 0, none⟩)) rfl (by kernel_rfl) (by kernel_rfl) (by kernel_rfl) (fun _ _ _ h => h) (Or.inl ⟨by rfl, fun w' hw' => by go_simp⟩) hH ?_
  try simp only [List.getElem_toArray, List.getElem_cons_succ, List.getElem_cons_zero, Act.put, List.setIfInBounds_toArray, List.set_cons_zero, List.set_cons_succ]
  refine wpAnyH_take (i := 3) (v := .pointer (some ⟨mb, 0, none⟩)) rfl (by kernel_rfl) (by kernel_rfl) (by kernel_rfl) (fun _ _ _ h => h) (Or.inl ⟨by rfl, fun w' hw' => by go_simp⟩) hH ?_
  try simp only [List.getElem_toArray, List.getElem_cons_succ, List.getElem_cons_zero, Act.put, List.setIfInBounds_toArray, List.set_cons_zero, List.set_cons_succ]
  refine wpAnyH_take (i := 5) (v := .int .i64 i) rfl (by kernel_rfl) (by kernel_rfl) (by kernel_rfl) (fun _ _ _ h => h) (Or.inl ⟨by rfl, fun w' hw' => by go_simp⟩) hH ?_
  try simp only [List.getElem_toArray, List.getElem_cons_succ, List.getElem_cons_zero, Act.put, List.setIfInBounds_toArray, List.set_cons_zero, List.set_cons_succ]
  refine wpAnyH_take (i := 6) (v := .agg #[.string x.1, .string x.2]) rfl (by kernel_rfl) (by kernel_rfl) (by kernel_rfl) (fun _ _ _ h => h) (Or.inl ⟨by rfl, fun w' hw' => by have c0 := Blk.cell hw' 0; have c1 := Blk.cell hw' 1; go_simp⟩) hH ?_
  try simp only [List.getElem_toArray, List.getElem_cons_succ, List.getElem_cons_zero, Act.put, List.setIfInBounds_toArray, List.set_cons_zero, List.set_cons_succ]
  refine wpAnyH_ready (rs := [4, 7]) (by kernel_rfl) (by simp) ?_
  refine AllReadyH.cons rfl (fun K hK => ?_) (AllReadyH.cons rfl (fun K hK => ?_) AllReadyH.nil)
  · go_simp
    refine hK.out _ _ (hX.drew) (fun hH => ?_)
    clear hK K
    try simp only [List.getElem_toArray, List.getElem_cons_succ, List.getElem_cons_zero, Act.put, List.setIfInBounds_toArray, List.set_cons_zero, List.set_cons_succ]
    refine wpAnyH_ready (rs := [7]) (by kernel_rfl) (by simp) ?_
    refine AllReadyH.cons rfl (fun K hK => ?_) AllReadyH.nil
    go_simp
    refine hK.out _ _ (hX5) (fun hH => ?_)
    clear hK K
    try simp only [List.getElem_toArray, List.getElem_cons_succ, List.getElem_cons_zero, Act.put, List.setIfInBounds_toArray, List.set_cons_zero, List.set_cons_succ]
    refine wpAnyH_ready (rs := [8]) (by kernel_rfl) (by simp) ?_
    refine AllReadyH.cons rfl (fun K hK => ?_) AllReadyH.nil
    go_simp
    refine (insert_v base l x _ i _ _ rfl hMo hMs hle (by omega) (xb + 1) hXn (fun k hk => by have := hvl k hk; omega)).mono ?_
    rintro e w2 ⟨v2, rfl, ho2, hC2⟩
    have hX2 : Blk w2 xb 93 #[.string x.1, .string x.2] := hX5.chg hC2 (fun hk => by have := hvl _ (by simpa using hk); omega)
    have hM2 : Blk w2 mb 135 #[.slice A l.length c] := hM5.chg hC2 (fun hk => hne _ (by simpa using hk) rfl)
    refine hK.out _ _ (hX2) (fun hH => ?_)
    clear hK K
    try simp only [List.getElem_toArray, List.getElem_cons_succ, List.getElem_cons_zero, Act.put, List.setIfInBounds_toArray, List.set_cons_zero, List.set_cons_succ]
    refine wpAnyH_take (i := 9) (v := .pointer (some ⟨mb, 0, none⟩)) rfl (by kernel_rfl) (by kernel_rfl) (by kernel_rfl) (fun _ _ _ h => h) (Or.inl ⟨by rfl, fun w' hw' => by go_simp⟩) hH ?_
    try simp only [List.getElem_toArray, List.getElem_cons_succ, List.getElem_cons_zero, Act.put, List.setIfInBounds_toArray, List.set_cons_zero, List.set_cons_succ]
    refine wpAnyH_take (i := 10) (v := .pointer (some ⟨mb, 0, none⟩)) rfl (by kernel_rfl) (by kernel_rfl) (by kernel_rfl) (fun _ _ _ h => h) (Or.inl ⟨by rfl, fun w' hw' => by go_simp⟩) hH ?_
    try simp only [List.getElem_toArray, List.getElem_cons_succ, List.getElem_cons_zero, Act.put, List.setIfInBounds_toArray, List.set_cons_zero, List.set_cons_succ]
    refine wpAnyH_ready (rs := [11]) (by kernel_rfl) (by simp) ?_
    refine AllReadyH.cons rfl (fun K hK => ?_) AllReadyH.nil
    rw [if_pos (by rfl)]
    refine op_store_one 94 _ _ rfl mb 0 rfl v2 rfl 135 _ hM2 (by simp) (by kernel_rfl) (own_one ho2) ?_
    intro w3 hC3 hs3 hB3
    refine hK.out _ _ (hX2.chg hC3 (by simp; omega)) (fun hH => ?_)
    clear hK K
    try simp only [List.getElem_toArray, List.getElem_cons_succ, List.getElem_cons_zero, Act.put, List.setIfInBounds_toArray, List.set_cons_zero, List.set_cons_succ]
    refine wpAnyH_done (by kernel_rfl) ?_ _
    go_wp2
    go_ret
    exact ⟨v2, rfl, hfin v2 w2 w3 ho2 hC2 hC3 hB3⟩
  · go_simp
    refine hK.out _ _ (hX5) (fun hH => ?_)
    clear hK K
    try simp only [List.getElem_toArray, List.getElem_cons_succ, List.getElem_cons_zero, Act.put, List.setIfInBounds_toArray, List.set_cons_zero, List.set_cons_succ]
    refine wpAnyH_ready (rs := [4]) (by kernel_rfl) (by simp) ?_
    refine AllReadyH.cons rfl (fun K hK => ?_) AllReadyH.nil
    have hc3 := hM5.cell 0
    go_simp
    refine hK.out _ _ (hX5) (fun hH => ?_)
    clear hK K
    try simp only [List.getElem_toArray, List.getElem_cons_succ, List.getElem_cons_zero, Act.put, List.setIfInBounds_toArray, List.set_cons_zero, List.set_cons_succ]
    refine wpAnyH_ready (rs := [8]) (by kernel_rfl) (by simp) ?_
    refine AllReadyH.cons rfl (fun K hK => ?_) AllReadyH.nil
    go_simp
    refine (insert_v base l x _ i _ _ rfl hMo hMs hle (by omega) (xb + 1) hXn (fun k hk => by have := hvl k hk; omega)).mono ?_
    rintro e w2 ⟨v2, rfl, ho2, hC2⟩
    have hX2 : Blk w2 xb 93 #[.string x.1, .string x.2] := hX5.chg hC2 (fun hk => by have := hvl _ (by simpa using hk); omega)
    have hM2 : Blk w2 mb 135 #[.slice A l.length c] := hM5.chg hC2 (fun hk => hne _ (by simpa using hk) rfl)
    refine hK.out _ _ (hX2) (fun hH => ?_)
    clear hK K
    try simp only [List.getElem_toArray, List.getElem_cons_succ, List.getElem_cons_zero, Act.put, List.setIfInBounds_toArray, List.set_cons_zero, List.set_cons_succ]
    refine wpAnyH_take (i := 9) (v := .pointer (some ⟨mb, 0, none⟩)) rfl (by kernel_rfl) (by kernel_rfl) (by kernel_rfl) (fun _ _ _ h => h) (Or.inl ⟨by rfl, fun w' hw' => by go_simp⟩) hH ?_
    try simp only [List.getElem_toArray, List.getElem_cons_succ, List.getElem_cons_zero, Act.put, List.setIfInBounds_toArray, List.set_cons_zero, List.set_cons_succ]
    refine wpAnyH_take (i := 10) (v := .pointer (some ⟨mb, 0, none⟩)) rfl (by kernel_rfl) (by kernel_rfl) (by kernel_rfl) (fun _ _ _ h => h) (Or.inl ⟨by rfl, fun w' hw' => by go_simp⟩) hH ?_
    try simp only [List.getElem_toArray, List.getElem_cons_succ, List.getElem_cons_zero, Act.put, List.setIfInBounds_toArray, List.set_cons_zero, List.set_cons_succ]
    refine wpAnyH_ready (rs := [11]) (by kernel_rfl) (by simp) ?_
    refine AllReadyH.cons rfl (fun K hK => ?_) AllReadyH.nil
    rw [if_pos (by rfl)]
    refine op_store_one 94 _ _ rfl mb 0 rfl v2 rfl 135 _ hM2 (by simp) (by kernel_rfl) (own_one ho2) ?_
    intro w3 hC3 hs3 hB3
    refine hK.out _ _ (hX2.chg hC3 (by simp; omega)) (fun hH => ?_)
    clear hK K
    try simp only [List.getElem_toArray, List.getElem_cons_succ, List.getElem_cons_zero, Act.put, List.setIfInBounds_toArray, List.set_cons_zero, List.set_cons_succ]
    refine wpAnyH_done (by kernel_rfl) ?_ _
    go_wp2
    go_ret
    exact ⟨v2, rfl, hfin v2 w2 w3 ho2 hC2 hC3 hB3⟩

set_option maxRecDepth 100000 in
set_option maxHeartbeats 1000000 in
theorem mput_w (mb base : Nat) (v : Value) (l : List Pr) (x : Pr) (w : World) (h : ModV w mb base v l) (h0 : 0 < x.1.size) (h24 : x.1.size ≤ 24) (h40 : x.2.size ≤ 40) (hm : ∀ y ∈ l, y.1 ≠ x.1) (hn : l.length + 1 ≤ 900) :
    Calls Tryz.prog 42 #[.pointer (some ⟨mb, 0, none⟩), .string x.1, .string x.2] w fun e w' => ∃ v', e = .returned (.int .i64 0) ∧ ModV w' mb base v' (ins x l) ∧ Chg (mb :: v.ownBlock.toList) w w' := by
  have hB1 : Blk (w.alloc (.cells #[.string x.2] 9)) w.heap.size 9 #[.string x.2] := Blk.newEq (by simp)
  have hC : Chg [] w (w.alloc (.cells #[.string x.2] 9)) := (Chg.refl _ _).alloc _
  go_enter Tryz.func42, Tryz.ntmps42
  go_wp2_with (first
    | (go_at_call 87; refine (mat_w mb base _ l x.1 _ _ (h.ext hC) h0 h24 (.inr ⟨_, x.2, rfl, h40, by rw [hB1.cell]; rfl⟩)).mono ?_; rintro e w1 ⟨i, is, rfl, hP, hC1⟩; obtain rfl := hP.gone hm)
    | (go_at_call 88; refine (mset_w mb base v l x i _ ((h.ext hC).ext hC1) hP hn).mono ?_; rintro e w2 ⟨v', rfl, hM2, hC2⟩))
  go_ret
  exact ⟨v', rfl, hM2, ((hC.trans hC1).mono (by simp)).trans hC2⟩

/-- Without a key. -/
def rmv (key : ByteArray) (l : List Pr) : List Pr := l.filter fun x => !decide (x.1 = key)
theorem rmv_len (key : ByteArray) (l : List Pr) : (rmv key l).length ≤ l.length := List.length_filter_le _ _
theorem Srt.filter {l : List Pr} (h : Srt l) (p : Pr → Bool) : Srt (l.filter p) := by
  induction l with
  | nil => exact Srt.nil
  | cons x l ih =>
    rw [List.filter_cons]
    split
    · exact (ih h.tail).cons fun y hy => h.head (List.mem_filter.1 hy).1
    · exact ih h.tail
theorem rmv_at {l : List Pr} {key : ByteArray} (hs : Srt l) : ∀ {i : Nat} {x : Pr}, l[i]? = some x → x.1 = key → l.take i ++ l.drop (i + 1) = rmv key l := by
  have hne : ∀ m : List Pr, (∀ y ∈ m, y.1 ≠ key) → rmv key m = m := fun m hm => List.filter_eq_self.2 fun y hy => by simp [hm y hy]
  intro i x hx hk
  have hil := (List.getElem?_eq_some_iff.1 hx).1
  have e : l = l.take i ++ x :: l.drop (i + 1) := by
    have := (List.getElem?_eq_some_iff.1 hx).2
    conv => lhs; rw [← List.take_append_drop i l, List.drop_eq_getElem_cons hil, this]
  have h1 : ∀ y ∈ l.take i, y.1 ≠ key := fun y hy e2 => by
    rw [e] at hs
    have := hs.sep hy (List.mem_cons_self (a := x) (l := l.drop (i + 1)))
    rw [e2, hk, cmp_refl] at this
    omega
  have h2 : ∀ y ∈ l.drop (i + 1), y.1 ≠ key := fun y hy e2 => by
    rw [e] at hs
    have := hs.appR.head hy
    rw [e2, hk, cmp_refl] at this
    omega
  show _ = l.filter _
  conv => rhs; rw [e, List.filter_append, List.filter_cons]
  rw [if_neg (by simp [hk])]
  congr 1
  · exact (hne _ h1).symm
  · exact (hne _ h2).symm

set_option maxRecDepth 100000 in
set_option maxHeartbeats 1000000 in
theorem mdelete_w (mb base : Nat) (v : Value) (l : List Pr) (key val : ByteArray) (w : World) (h : ModV w mb base v l) (h0 : 0 < key.size) (h24 : key.size ≤ 24) (hm : (key, val) ∈ l) :
    Calls Tryz.prog 86 #[.pointer (some ⟨mb, 0, none⟩), .string key] w fun e w' => ∃ v', e = .returned (.tuple #[.string val, .int .i64 0]) ∧ ModV w' mb base v' (rmv key l) ∧ Chg (mb :: v.ownBlock.toList) w w' := by
  have hn := h.n
  go_enter Tryz.func86, Tryz.ntmps86
  go_wp2_with (first
    | (go_at_call 40; refine (mget_some mb base v l key val _ h h0 h24 hm).mono ?_; rintro e w1 ⟨rfl, hC1⟩; have hM1 := h.ext hC1)
    | (go_at_call 120; refine (mplace_w mb base v l key _ hM1).mono ?_; rintro e w2 ⟨i, is, rfl, hP, hC2⟩; obtain ⟨rfl, hx⟩ := hP.find h.s hm; have hM2 := hM1.ext hC2; have hc := hM2.b.cell 0; have hil := (List.getElem?_eq_some_iff.1 hx).1; have hH := Lib.hid hx; clear hx)
    | (go_at_call 121; go_loud (refine (delete_v base l v i _ _ _ rfl (by first | rfl | omega | (rw [IntKind.wrap_i64]; omega)) hM2.o hil (by omega)).mono ?_); rintro e w3 ⟨v2, rfl, ho3, hC3⟩; have hM3 : Blk w3 mb 135 #[v] := hM2.b.chg hC3 (fun hk => hM2.ne _ (by simpa using hk) rfl))
    | (refine wpList_store_one rfl 94 (.tmp 35) (.tmp 33) rfl mb 0 rfl v2 rfl 135 _ hM3 (by simp) (by kernel_rfl) (own_one ho3) ?_; intro w4 hC4 hs4 hB4))
  go_ret2
  have e := rmv_at h.s hH.out rfl
  rw [e] at ho3
  have hll := rmv_len key l
  have ho4 := own_chg ho3 hC4 (fun k hk hm => own_ne ho3 hM3 (by decide) hk (by simpa using hm))
  exact ⟨v2, rfl, ⟨by have := hM2.bs; have := hC3.size; omega, hB4, ho4, h.s.filter _, by omega⟩, (((hC1.trans hC2).mono (by simp)).trans (hC3.mono (fun k hk => List.mem_cons_of_mem _ hk))).trans (hC4.mono (by simp))⟩

end Go.Proofs.YtpcaadipejnllaaGreatDoor

/- Cells of rows and their bytes; the digits of a number. -/
set_option linter.unusedVariables false
set_option linter.unusedSimpArgs false
namespace Go.Proofs.YtpcaadipejnllaaGreatDoor
open Go.RowKit

def bys (l : List UInt8) : List Value := l.map fun b => .int .u8 (b.toNat : Int)
theorem bys_len (l : List UInt8) : (bys l).length = l.length := by simp [bys]
theorem bys_app (l m : List UInt8) : bys (l ++ m) = bys l ++ bys m := by simp [bys]
theorem bys_one (l : List UInt8) : ∀ u ∈ bys l, u.oneCell' = true := by
  intro u hu
  simp [bys] at hu
  obtain ⟨_, _, rfl⟩ := hu
  rfl

/-- The digits of a number of two bytes at most. -/
def digs (n : Nat) : List UInt8 := if n = 0 then [] else if n < 256 then [UInt8.ofNat n] else [UInt8.ofNat (n / 256), UInt8.ofNat (n % 256)]

set_option maxRecDepth 100000 in
set_option maxHeartbeats 1000000 in
theorem rev_short (g n c : Nat) (w : World) (h : n ≤ 1) :
    Calls Tryz.prog 142 #[.slice (some ⟨g, 0, none⟩) n c] w fun e w' => e = .returned (.tuple #[]) ∧ w = w' := by
  have h1 : IntKind.i64.wrap ((n : Int) - 1) = (n : Int) - 1 := by rw [IntKind.wrap_i64]; omega
  have h2 : decide ((0 : Int) < (n : Int) - 1) = false := decide_eq_false (by omega)
  go_enter Tryz.func142, Tryz.ntmps142
  go_wp2
  refine wp_loop_rounds 1 ?_
  rw [rounds_succ]
  go_wp2
  go_end0
  exact ⟨rfl, rfl⟩

set_option maxRecDepth 100000 in
set_option maxHeartbeats 1000000 in
theorem rev_nil (w : World) :
    Calls Tryz.prog 142 #[.slice none 0 0] w fun e w' => e = .returned (.tuple #[]) ∧ w = w' := by
  go_enter Tryz.func142, Tryz.ntmps142
  go_wp2
  refine wp_loop_rounds 1 ?_
  rw [rounds_succ]
  go_wp2
  go_end0
  exact ⟨rfl, rfl⟩

set_option maxRecDepth 100000 in
set_option maxHeartbeats 1000000 in
theorem rev_two (g c : Nat) (a b : Value) (cs : Array Value) (w : World) (h : Blk w g 5 cs) (h0 : cs[0]? = some a) (h1 : cs[1]? = some b) (ha : a.oneCell' = true) (hb : b.oneCell' = true) :
    Calls Tryz.prog 142 #[.slice (some ⟨g, 0, none⟩) 2 c] w fun e w' => e = .returned (.tuple #[]) ∧ Chg [g] w w' ∧ Blk w' g 5 ((cs.setIfInBounds 0 b).setIfInBounds 1 a) := by
  go_enter Tryz.func142, Tryz.ntmps142
  go_wp2
  refine wp_loop_rounds 2 ?_
  rw [rounds_succ]
  go_upto_region 3 with (fail)
  have c0 : w.drew.cell? ⟨g, 0, none⟩ = some a := by rw [h.drew.cell]; exact h0
  have c1 : w.drew.cell? ⟨g, 1, none⟩ = some b := by rw [h.drew.cell]; exact h1
  have hz : 2 ≤ cs.size := by have := (Array.getElem?_eq_some_iff.1 h1).1; omega
  refine wp_region_held_drew (S := fun W => True) (by kernel_rfl) (trivial) (fun hH => ?_)
  refine wpAnyH_take (i := 0) (v := .slice (some ⟨g, 0, none⟩) 2 c) rfl (by kernel_rfl) (by kernel_rfl) (by kernel_rfl) (fun _ _ _ h => h) (Or.inl ⟨by rfl, fun w' hw' => by go_simp⟩) hH ?_
  try simp only [List.getElem_toArray, List.getElem_cons_succ, List.getElem_cons_zero, Act.put, List.setIfInBounds_toArray, List.set_cons_zero, List.set_cons_succ]
  refine wpAnyH_take (i := 1) (v := .int .i64 0) rfl (by kernel_rfl) (by kernel_rfl) (by kernel_rfl) (fun _ _ _ h => h) (Or.inl ⟨by rfl, fun w' hw' => by go_simp⟩) hH ?_
  try simp only [List.getElem_toArray, List.getElem_cons_succ, List.getElem_cons_zero, Act.put, List.setIfInBounds_toArray, List.set_cons_zero, List.set_cons_succ]
  refine wpAnyH_take (i := 2) (v := .slice (some ⟨g, 0, none⟩) 2 c) rfl (by kernel_rfl) (by kernel_rfl) (by kernel_rfl) (fun _ _ _ h => h) (Or.inl ⟨by rfl, fun w' hw' => by go_simp⟩) hH ?_
  try simp only [List.getElem_toArray, List.getElem_cons_succ, List.getElem_cons_zero, Act.put, List.setIfInBounds_toArray, List.set_cons_zero, List.set_cons_succ]
  refine wpAnyH_take (i := 3) (v := .int .i64 1) rfl (by kernel_rfl) (by kernel_rfl) (by kernel_rfl) (fun _ _ _ h => h) (Or.inl ⟨by rfl, fun w' hw' => by go_simp⟩) hH ?_
  try simp only [List.getElem_toArray, List.getElem_cons_succ, List.getElem_cons_zero, Act.put, List.setIfInBounds_toArray, List.set_cons_zero, List.set_cons_succ]
  refine wpAnyH_take (i := 4) (v := .slice (some ⟨g, 0, none⟩) 2 c) rfl (by kernel_rfl) (by kernel_rfl) (by kernel_rfl) (fun _ _ _ h => h) (Or.inl ⟨by rfl, fun w' hw' => by go_simp⟩) hH ?_
  try simp only [List.getElem_toArray, List.getElem_cons_succ, List.getElem_cons_zero, Act.put, List.setIfInBounds_toArray, List.set_cons_zero, List.set_cons_succ]
  refine wpAnyH_take (i := 5) (v := .int .i64 1) rfl (by kernel_rfl) (by kernel_rfl) (by kernel_rfl) (fun _ _ _ h => h) (Or.inl ⟨by rfl, fun w' hw' => by go_simp⟩) hH ?_
  try simp only [List.getElem_toArray, List.getElem_cons_succ, List.getElem_cons_zero, Act.put, List.setIfInBounds_toArray, List.set_cons_zero, List.set_cons_succ]
  refine wpAnyH_take (i := 6) (v := .pointer (some ⟨g, 1, none⟩)) rfl (by kernel_rfl) (by kernel_rfl) (by kernel_rfl) (fun _ _ _ h => h) (Or.inl ⟨by rfl, fun w' hw' => by go_simp⟩) hH ?_
  try simp only [List.getElem_toArray, List.getElem_cons_succ, List.getElem_cons_zero, Act.put, List.setIfInBounds_toArray, List.set_cons_zero, List.set_cons_succ]
  refine wpAnyH_take (i := 8) (v := .slice (some ⟨g, 0, none⟩) 2 c) rfl (by kernel_rfl) (by kernel_rfl) (by kernel_rfl) (fun _ _ _ h => h) (Or.inl ⟨by rfl, fun w' hw' => by go_simp⟩) hH ?_
  try simp only [List.getElem_toArray, List.getElem_cons_succ, List.getElem_cons_zero, Act.put, List.setIfInBounds_toArray, List.set_cons_zero, List.set_cons_succ]
  refine wpAnyH_take (i := 9) (v := .int .i64 0) rfl (by kernel_rfl) (by kernel_rfl) (by kernel_rfl) (fun _ _ _ h => h) (Or.inl ⟨by rfl, fun w' hw' => by go_simp⟩) hH ?_
  try simp only [List.getElem_toArray, List.getElem_cons_succ, List.getElem_cons_zero, Act.put, List.setIfInBounds_toArray, List.set_cons_zero, List.set_cons_succ]
  refine wpAnyH_take (i := 10) (v := .pointer (some ⟨g, 0, none⟩)) rfl (by kernel_rfl) (by kernel_rfl) (by kernel_rfl) (fun _ _ _ h => h) (Or.inl ⟨by rfl, fun w' hw' => by go_simp⟩) hH ?_
  try simp only [List.getElem_toArray, List.getElem_cons_succ, List.getElem_cons_zero, Act.put, List.setIfInBounds_toArray, List.set_cons_zero, List.set_cons_succ]
  refine wpAnyH_ready (rs := [7, 11]) (by kernel_rfl) (by simp) ?_
  refine AllReadyH.cons rfl (fun K hK => ?_) (AllReadyH.cons rfl (fun K hK => ?_) AllReadyH.nil)
  · go_simp
    refine hK.out _ _ (trivial) (fun hH => ?_)
    clear hK K
    try simp only [List.getElem_toArray, List.getElem_cons_succ, List.getElem_cons_zero, Act.put, List.setIfInBounds_toArray, List.set_cons_zero, List.set_cons_succ]
    refine wpAnyH_ready (rs := [11]) (by kernel_rfl) (by simp) ?_
    refine AllReadyH.cons rfl (fun K hK => ?_) AllReadyH.nil
    go_simp
    refine hK.out _ _ (trivial) (fun hH => ?_)
    clear hK K
    try simp only [List.getElem_toArray, List.getElem_cons_succ, List.getElem_cons_zero, Act.put, List.setIfInBounds_toArray, List.set_cons_zero, List.set_cons_succ]
    refine wpAnyH_take (i := 12) (v := .pointer (some ⟨g, 0, none⟩)) rfl (by kernel_rfl) (by kernel_rfl) (by kernel_rfl) (fun _ _ _ h => h) (Or.inl ⟨by rfl, fun w' hw' => by go_simp⟩) hH ?_
    try simp only [List.getElem_toArray, List.getElem_cons_succ, List.getElem_cons_zero, Act.put, List.setIfInBounds_toArray, List.set_cons_zero, List.set_cons_succ]
    refine wpAnyH_ready (rs := [13]) (by kernel_rfl) (by simp) ?_
    refine AllReadyH.cons rfl (fun K hK => ?_) AllReadyH.nil
    rw [if_pos (by rfl)]
    refine op_store_one 5 _ _ rfl g 0 rfl b rfl 5 cs h.drew (by omega) (by kernel_rfl) hb ?_
    intro w3 hC3 hs3 hB3
    refine hK.out _ _ (trivial) (fun hH => ?_)
    clear hK K
    try simp only [List.getElem_toArray, List.getElem_cons_succ, List.getElem_cons_zero, Act.put, List.setIfInBounds_toArray, List.set_cons_zero, List.set_cons_succ]
    refine wpAnyH_take (i := 14) (v := .pointer (some ⟨g, 1, none⟩)) rfl (by kernel_rfl) (by kernel_rfl) (by kernel_rfl) (fun _ _ _ h => h) (Or.inl ⟨by rfl, fun w' hw' => by go_simp⟩) hH ?_
    try simp only [List.getElem_toArray, List.getElem_cons_succ, List.getElem_cons_zero, Act.put, List.setIfInBounds_toArray, List.set_cons_zero, List.set_cons_succ]
    refine wpAnyH_ready (rs := [15]) (by kernel_rfl) (by simp) ?_
    refine AllReadyH.cons rfl (fun K hK => ?_) AllReadyH.nil
    rw [if_pos (by rfl)]
    refine op_store_one 5 _ _ rfl g 1 rfl a rfl 5 _ hB3 (by simp; omega) (by kernel_rfl) ha ?_
    intro w4 hC4 hs4 hB4
    refine hK.out _ _ (trivial) (fun hH => ?_)
    clear hK K
    try simp only [List.getElem_toArray, List.getElem_cons_succ, List.getElem_cons_zero, Act.put, List.setIfInBounds_toArray, List.set_cons_zero, List.set_cons_succ]
    refine wpAnyH_done (by kernel_rfl) ?_ _
    go_wp2_with fail
    rw [rounds_succ]
    go_wp2
    go_end0
    exact ⟨rfl, ((Chg.refl [g] w).drew.trans hC3).trans hC4, hB4⟩
  · go_simp
    refine hK.out _ _ (trivial) (fun hH => ?_)
    clear hK K
    try simp only [List.getElem_toArray, List.getElem_cons_succ, List.getElem_cons_zero, Act.put, List.setIfInBounds_toArray, List.set_cons_zero, List.set_cons_succ]
    refine wpAnyH_ready (rs := [7]) (by kernel_rfl) (by simp) ?_
    refine AllReadyH.cons rfl (fun K hK => ?_) AllReadyH.nil
    go_simp
    refine hK.out _ _ (trivial) (fun hH => ?_)
    clear hK K
    try simp only [List.getElem_toArray, List.getElem_cons_succ, List.getElem_cons_zero, Act.put, List.setIfInBounds_toArray, List.set_cons_zero, List.set_cons_succ]
    refine wpAnyH_take (i := 12) (v := .pointer (some ⟨g, 0, none⟩)) rfl (by kernel_rfl) (by kernel_rfl) (by kernel_rfl) (fun _ _ _ h => h) (Or.inl ⟨by rfl, fun w' hw' => by go_simp⟩) hH ?_
    try simp only [List.getElem_toArray, List.getElem_cons_succ, List.getElem_cons_zero, Act.put, List.setIfInBounds_toArray, List.set_cons_zero, List.set_cons_succ]
    refine wpAnyH_ready (rs := [13]) (by kernel_rfl) (by simp) ?_
    refine AllReadyH.cons rfl (fun K hK => ?_) AllReadyH.nil
    rw [if_pos (by rfl)]
    refine op_store_one 5 _ _ rfl g 0 rfl b rfl 5 cs h.drew (by omega) (by kernel_rfl) hb ?_
    intro w3 hC3 hs3 hB3
    refine hK.out _ _ (trivial) (fun hH => ?_)
    clear hK K
    try simp only [List.getElem_toArray, List.getElem_cons_succ, List.getElem_cons_zero, Act.put, List.setIfInBounds_toArray, List.set_cons_zero, List.set_cons_succ]
    refine wpAnyH_take (i := 14) (v := .pointer (some ⟨g, 1, none⟩)) rfl (by kernel_rfl) (by kernel_rfl) (by kernel_rfl) (fun _ _ _ h => h) (Or.inl ⟨by rfl, fun w' hw' => by go_simp⟩) hH ?_
    try simp only [List.getElem_toArray, List.getElem_cons_succ, List.getElem_cons_zero, Act.put, List.setIfInBounds_toArray, List.set_cons_zero, List.set_cons_succ]
    refine wpAnyH_ready (rs := [15]) (by kernel_rfl) (by simp) ?_
    refine AllReadyH.cons rfl (fun K hK => ?_) AllReadyH.nil
    rw [if_pos (by rfl)]
    refine op_store_one 5 _ _ rfl g 1 rfl a rfl 5 _ hB3 (by simp; omega) (by kernel_rfl) ha ?_
    intro w4 hC4 hs4 hB4
    refine hK.out _ _ (trivial) (fun hH => ?_)
    clear hK K
    try simp only [List.getElem_toArray, List.getElem_cons_succ, List.getElem_cons_zero, Act.put, List.setIfInBounds_toArray, List.set_cons_zero, List.set_cons_succ]
    refine wpAnyH_done (by kernel_rfl) ?_ _
    go_wp2_with fail
    rw [rounds_succ]
    go_wp2
    go_end0
    exact ⟨rfl, ((Chg.refl [g] w).drew.trans hC3).trans hC4, hB4⟩

/-- What the digits of a number are in memory. -/
def Digs (n : Nat) (w : World) (e : Ending) (w' : World) : Prop := ∃ v, e = .returned v ∧ w'.ownsRow w.heap.size 5 1 v (digs n).length (bys (digs n)) ∧ Chg [] w w'

set_option maxRecDepth 100000 in
set_option maxHeartbeats 1000000 in
theorem digs_zero (w : World) : Calls Tryz.prog 111 #[.int .u64 0] w (Digs 0 w) := by
  go_enter Tryz.func111, Tryz.ntmps111
  go_wp2
  refine wp_loop_rounds 1 ?_
  rw [rounds_succ]
  go_wp2_with (go_at_call 142; refine (rev_nil _).mono ?_; rintro e w1 ⟨rfl, rfl⟩)
  go_ret
  exact ⟨_, rfl, World.ownsRow_nil _ _ _ _, Chg.refl _ _⟩

set_option maxRecDepth 100000 in
set_option maxHeartbeats 1000000 in
theorem digs_one (n : Nat) (w : World) (h0 : 0 < n) (h1 : n < 256) : Calls Tryz.prog 111 #[.int .u64 n] w (Digs n w) := by
  obtain ⟨i0, hi, hz0, hz1, hz2⟩ := info_parts info5
  have hd : digs n = [UInt8.ofNat n] := by unfold digs; rw [if_neg (by omega), if_pos h1]
  have hu : (UInt8.ofNat n).toNat = n := by simp; omega
  have hw1 : IntKind.u8.wrap (n : Int) = (n : Int) := by rw [IntKind.wrap_u8]; omega
  have hw2 : (n : Int) / 256 = 0 := by omega
  have hsh : n >>> 8 = 0 := by rw [Nat.shiftRight_eq_div_pow]; omega
  go_enter Tryz.func111, Tryz.ntmps111
  go_wp2
  refine wp_loop_rounds 2 ?_
  rw [rounds_succ]
  go_wp2_with (first
    | (at_builtin; refine wpList_append_own _ rfl _ _ 86 rfl w.heap.size 5 i0 (.int .u8 0) 1 1 Tryz.underlying86 hi hz0 hz1 hz2 rfl (by decide) _ 0 [] rfl (World.ownsRow_nil _ _ _ _) ⟨w.heap.size, 0, none⟩ 1 1 [.int .u8 n] rfl rfl (one_at _ _ _) (by simp [Value.oneCell']) (by unfold maxLen; omega) (by omega) (by simp) ?_; intro v1 w1 hown1 hg1 _))
  rw [rounds_succ]
  obtain ⟨hl, h2⟩ := id hown1
  rcases h2 with ⟨rfl, h0⟩ | ⟨g, c, cur, rfl, hbg, hg', hn, hm, hz, ht⟩
  · omega
  · go_wp2_with (first
      | (go_at_call 142; refine (rev_short g 1 c _ (by omega)).mono ?_; rintro e w2 ⟨rfl, rfl⟩))
    go_ret
    refine ⟨_, rfl, ?_, ((Chg.refl [] w).alloc _).grown hg1 (by intro k hk; cases hk)⟩
    rw [hd, show bys [UInt8.ofNat n] = [.int .u8 n] by simp [bys, hu]]
    exact hown1

set_option maxRecDepth 100000 in
set_option maxHeartbeats 1000000 in
theorem digs_two (n : Nat) (w : World) (h0 : 256 ≤ n) (h1 : n < 65536) : Calls Tryz.prog 111 #[.int .u64 n] w (Digs n w) := by
  obtain ⟨i0, hi, hz0, hz1, hz2⟩ := info_parts info5
  have hd : digs n = [UInt8.ofNat (n / 256), UInt8.ofNat (n % 256)] := by unfold digs; rw [if_neg (by omega), if_neg (by omega)]
  have hu : (UInt8.ofNat (n / 256)).toNat = n / 256 := by simp; omega
  have hu2 : (UInt8.ofNat (n % 256)).toNat = n % 256 := by simp
  have hw1 : IntKind.u8.wrap (n : Int) = ((n % 256 : Nat) : Int) := by rw [IntKind.wrap_u8]; omega
  have hw2 : IntKind.u8.wrap ((n / 256 : Nat) : Int) = ((n / 256 : Nat) : Int) := by rw [IntKind.wrap_u8]; omega
  have hsh : n >>> 8 = n / 256 := by rw [Nat.shiftRight_eq_div_pow]
  have hsh2 : (n / 256) >>> 8 = 0 := by rw [Nat.shiftRight_eq_div_pow]; omega
  go_enter Tryz.func111, Tryz.ntmps111
  go_wp2
  refine wp_loop_rounds 3 ?_
  rw [rounds_succ]
  go_wp2_with (first
    | (at_builtin; refine wpList_append_own _ rfl _ _ 86 rfl w.heap.size 5 i0 (.int .u8 0) 1 1 Tryz.underlying86 hi hz0 hz1 hz2 rfl (by decide) _ 0 [] rfl (World.ownsRow_nil _ _ _ _) ⟨w.heap.size, 0, none⟩ 1 1 [.int .u8 ((n % 256 : Nat) : Int)] rfl rfl (one_at _ _ _) (by simp [Value.oneCell']) (by unfold maxLen; omega) (by omega) (by simp) ?_; intro v1 w1 hown1 hg1 _))
  rw [rounds_succ]
  go_wp2_with (first
    | (at_builtin; refine wpList_append_own _ rfl _ _ 86 rfl w.heap.size 5 i0 (.int .u8 0) 1 1 Tryz.underlying86 hi hz0 hz1 hz2 rfl (by decide) _ 1 _ rfl (hown1.alloc _) ⟨w1.heap.size, 0, none⟩ 1 1 [.int .u8 ((n / 256 : Nat) : Int)] rfl rfl (one_at _ _ _) (by simp [Value.oneCell']) (by unfold maxLen; omega) (by omega) (by have := hg1.size; simp at this ⊢; omega) ?_; intro v2 w2 hown2 hg2 _))
  rw [rounds_succ]
  obtain ⟨hl, h2⟩ := id hown2
  rcases h2 with ⟨rfl, h0⟩ | ⟨g, c, cur, rfl, hbg, hg', hn, hm, hz, ht⟩
  · omega
  · have hg : Blk w2 g 5 cur := hg'
    have hc2 : 2 ≤ cur.size := by omega
    have e0 : cur[0]? = some (.int .u8 ((n % 256 : Nat) : Int)) := by
      have := congrArg (·[0]?) ht
      simpa [List.getElem?_take] using this
    have e1 : cur[1]? = some (.int .u8 ((n / 256 : Nat) : Int)) := by
      have := congrArg (·[1]?) ht
      simpa [List.getElem?_take] using this
    go_wp2_with (first
      | (go_at_call 142; refine (rev_two g c _ _ cur _ hg e0 e1 rfl rfl).mono ?_; rintro e w3 ⟨rfl, hC3, hB3⟩))
    go_ret
    have hCa : Chg [] w w1 := ((Chg.refl [] w).alloc _).grown hg1 (by intro k hk; cases hk)
    have hCb : Chg [] w w2 := (hCa.alloc _).grown hg2 (fun k hk => .inr ((hown1.lt k hk).1))
    refine ⟨_, rfl, ?_, hCb.on hC3 (fun i hi => .inr (by simp at hi; omega))⟩
    rw [hd]
    refine ⟨by simp [bys], .inr ⟨g, c, _, rfl, hbg, hB3, by simp; omega, hm, by simp; omega, ?_⟩⟩
    have hcl : 2 ≤ cur.toList.length := by simpa using hc2
    apply List.ext_getElem?
    intro j
    rw [List.getElem?_take]
    simp only [bys, List.map_cons, List.map_nil, hu, hu2]
    match j with
    | 0 => rw [if_pos (by simp), Array.getElem?_toList, Array.getElem?_setIfInBounds, if_neg (by omega), Array.getElem?_setIfInBounds, if_pos rfl, if_pos (by omega)]; rfl
    | 1 => rw [if_pos (by simp), Array.getElem?_toList, Array.getElem?_setIfInBounds, if_pos rfl, if_pos (by simp; omega)]; rfl
    | j + 2 => rw [if_neg (by simp)]; rfl

theorem digs_w (n : Nat) (w : World) (h : n < 65536) : Calls Tryz.prog 111 #[.int .u64 n] w (Digs n w) := by
  rcases Nat.lt_or_ge n 1 with h0 | h0
  · obtain rfl : n = 0 := by omega
    exact digs_zero w
  · rcases Nat.lt_or_ge n 256 with h1 | h1
    · exact digs_one n w h0 h1
    · exact digs_two n w h1 h

end Go.Proofs.YtpcaadipejnllaaGreatDoor

/- The bytes of a text in a row: written and read again. -/
set_option linter.unusedVariables false
namespace Go.Proofs.YtpcaadipejnllaaGreatDoor
open Go Go.Lib

theorem index_cons {b : UInt8} {l old : List UInt8} (h : old.isPrefixOf (b :: l) = false) : index (b :: l) old = if index l old = -1 then -1 else index l old + 1 := by
  conv => lhs; unfold index
  rw [if_neg (by rw [h]; simp)]
  by_cases c : index l old = -1
  · rw [if_pos c, if_pos (by rw [c]; rfl)]
  · rw [if_neg c, if_neg (fun e => c (beq_iff_eq.1 e))]
theorem index_pre {s old : List UInt8} (h : old.isPrefixOf s = true) : index s old = 0 := by
  cases s with
  | nil => cases old with
    | nil => rfl
    | cons a o => simp [List.isPrefixOf] at h
  | cons b l => unfold index; rw [if_pos h]

variable {old new : List UInt8}
theorem rep_eq (h0 : old ≠ new) (s : List UInt8) : replaceAll s old new = replaceK old new (count s old) s := by
  unfold replaceAll replace replaceNum
  rw [if_neg (fun e => h0 (beq_iff_eq.1 e)), if_pos (.inl (by omega))]
theorem rep_nil (h0 : old ≠ new) (h1 : old ≠ []) : replaceAll [] old new = [] := by
  have : index [] old = -1 := by cases old with
    | nil => exact absurd rfl h1
    | cons a o => rfl
  rw [rep_eq h0, count_miss this]
  rfl
theorem rep_pre (h0 : old ≠ new) (h1 : old ≠ []) {s : List UInt8} (h : old.isPrefixOf s = true) : replaceAll s old new = new ++ replaceAll (s.drop old.length) old new := by
  have hi : index s old = (0 : Nat) := index_pre h
  rw [rep_eq h0, rep_eq h0, count_hit h1 hi, Nat.add_comm 1, replaceK_hit _ _ _ _ 0 hi]
  simp
theorem rep_cons (h0 : old ≠ new) (h1 : old ≠ []) {b : UInt8} {l : List UInt8} (h : old.isPrefixOf (b :: l) = false) : replaceAll (b :: l) old new = b :: replaceAll l old new := by
  have hi := index_cons h
  by_cases c : index l old = -1
  · rw [if_pos c] at hi
    rw [rep_eq h0, rep_eq h0, count_miss hi, count_miss c]
    rfl
  · rw [if_neg c] at hi
    have hg := index_ge l old
    obtain ⟨i, hi2⟩ : ∃ i : Nat, index l old = i := ⟨(index l old).toNat, by omega⟩
    have hi3 : index (b :: l) old = (i + 1 : Nat) := by omega
    rw [rep_eq h0, rep_eq h0, count_hit h1 hi3, count_hit h1 hi2, Nat.add_comm 1, Nat.add_comm 1, replaceK_hit _ _ _ _ _ hi3, replaceK_hit _ _ _ _ _ hi2]
    simp [Nat.add_right_comm]

/-- A text as it is written. -/
def esc : List UInt8 → List UInt8
  | [] => []
  | b :: l => if b = 0 then 0 :: 255 :: esc l else b :: esc l
theorem esc_len : ∀ s : List UInt8, (esc s).length ≤ 2 * s.length
  | [] => by simp [esc]
  | b :: l => by
    have := esc_len l
    unfold esc
    split <;> simp <;> omega
theorem esc_rep : ∀ s : List UInt8, replaceAll s [0] [0, 255] = esc s
  | [] => rep_nil (by decide) (by decide)
  | b :: l => by
    unfold esc
    split
    · rename_i h
      subst h
      rw [rep_pre (by decide) (by decide) (by simp [List.isPrefixOf])]
      simp [esc_rep l]
    · rename_i h
      rw [rep_cons (by decide) (by decide) (by simp [List.isPrefixOf]; exact fun e => h e.symm), esc_rep l]
theorem esc_back : ∀ s : List UInt8, replaceAll (esc s) [0, 255] [0] = s
  | [] => rep_nil (by decide) (by decide)
  | b :: l => by
    unfold esc
    split
    · rename_i h
      subst h
      rw [rep_pre (by decide) (by decide) (by simp [List.isPrefixOf])]
      simp [esc_back l]
    · rename_i h
      rw [rep_cons (by decide) (by decide) (by simp [List.isPrefixOf]; exact fun e => absurd e.symm h), esc_back l]
theorem esc_index : ∀ s r : List UInt8, index (esc s ++ 0 :: 1 :: r) [0, 1] = (esc s).length
  | [], r => by
    show index (0 :: 1 :: r) [0, 1] = 0
    exact index_pre (by simp [List.isPrefixOf])
  | b :: l, r => by
    have ih := esc_index l r
    unfold esc
    split
    · rename_i h
      rw [List.cons_append, index_cons (by simp [List.isPrefixOf]), List.cons_append, index_cons (by simp [List.isPrefixOf]), ih, if_neg (by omega), if_neg (by omega)]
      simp
    · rename_i h
      rw [List.cons_append, index_cons (by simp [List.isPrefixOf]; exact fun e => absurd e.symm h), ih, if_neg (by omega)]
      simp

end Go.Proofs.YtpcaadipejnllaaGreatDoor
