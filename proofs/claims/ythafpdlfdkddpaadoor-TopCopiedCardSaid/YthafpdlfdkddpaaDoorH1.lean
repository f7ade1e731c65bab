/-
 The tops: copies of designs, as plain data.
-/
import Derived.Test.YthafpdlfdkddpaaDoorZX7
import Derived.Test.YthafpdlfdkddpaaDoorV3
import Derived.Test.YthafpdlfdkddpaaDoorM23
set_option linter.all false
namespace Go.Abs
open Cp (SetsOk firstN turnL turnR setsN joinN joinAt atR orAll subN madeB lostN subB lostT turnL_at turnR_bit turnR_lt orAll_bit subN_bit subN_zero subN_lt)

theorem des_ext {a b : DesN} {n : Nat} (ha : ∀ r ∈ a.rows, r < 2 ^ a.hk) (hb : ∀ r ∈ b.rows, r < 2 ^ b.hk) (hk : a.hk = b.hk) (la : a.rows.length = n) (lb : b.rows.length = n) (h : ∀ q j, q < n → j < a.hk → (a.rows.getD q 0).testBit j = (b.rows.getD q 0).testBit j) : a = b := by
 obtain ⟨ka, ra⟩ := a
 obtain ⟨kb, rb⟩ := b
 simp only at *
 subst hk
 congr 1
 refine List.ext_getElem (by omega) fun q h1 h2 => ?_
 have := h q
 rw [Cp.rows_get h1, Cp.rows_get h2] at this
 exact row_eq (ha _ (List.getElem_mem h1)) (hb _ (List.getElem_mem h2)) fun j hj => this j (by omega) hj

/-! ## the First of copies, point by point -/
theorem first_len (t : Bool) (hk n : Nat) (l : List DesN) : (firstN t hk n l).rows.length = n := by simp [firstN]
theorem first_bit {l : List DesN} {hk n : Nat} (h : SetsOk l hk n) (t : Bool) {q j : Nat} (hq : q < n) (hj : j < hk) : ((firstN t hk n l).rows.getD q 0).testBit j = ((l.any fun d => ((d.rows.getD q 0).testBit j ^^ t)) ^^ t) := by
 unfold firstN
 dsimp only
 rw [turnL_at _ _ _ (by simpa using hq), turnR_bit hj]
 congr 1
 have : (joinN (setsN t hk l) n).getD q 0 = joinAt (setsN t hk l) q := by
  unfold joinN
  rw [Cp.rows_get (by simpa using hq)]; simp
 rw [this]
 unfold joinAt
 rw [orAll_bit, List.any_map, setsN, List.any_map]
 refine Bool.eq_iff_iff.2 ?_
 simp only [List.any_eq_true, Function.comp]
 constructor
 ·rintro ⟨d, hd, e⟩
  refine ⟨d, hd, ?_⟩
  unfold atR at e
  rwa [turnL_at _ _ _ (by rw [h.rows d hd]; exact hq), turnR_bit hj] at e
 ·rintro ⟨d, hd, e⟩
  refine ⟨d, hd, ?_⟩
  unfold atR
  rwa [turnL_at _ _ _ (by rw [h.rows d hd]; exact hq), turnR_bit hj]
theorem first_lt {l : List DesN} {hk n : Nat} (h : SetsOk l hk n) (t : Bool) : ∀ r ∈ (firstN t hk n l).rows, r < 2 ^ hk := by
 intro r hr
 obtain ⟨x, hx, rfl⟩ := List.mem_map.1 hr
 obtain ⟨q, hq, rfl⟩ := List.mem_map.1 hx
 exact turnR_lt (Cp.joinAt_lt (n := n) (Cp.setsN_row h) (List.mem_range.1 hq))
theorem first_is {l : List DesN} {hk n : Nat} (h : SetsOk l hk n) (t : Bool) : (firstN t hk n l).Ok where
 h1 := h.k1.1.1
 h24 := h.k1.1.2
 r1 := by rw [first_len]; exact h.k1.2.1
 r60 := by rw [first_len]; exact h.k1.2.2
 lt := first_lt h t

theorem made_bit (g : Nat → Nat → Bool) {P H q j : Nat} (hq : q < P) (hj : j < H) : ((madeN g P H).rows.getD q 0).testBit j = g q j := by
 unfold madeN
 dsimp only
 rw [Cp.rows_get (by simpa using hq), List.getElem_map, List.getElem_range, rowTo_bit]
 simp [hj]
theorem made_lt (g : Nat → Nat → Bool) (P H : Nat) : ∀ r ∈ (madeN g P H).rows, r < 2 ^ (madeN g P H).hk := by
 intro r hr
 obtain ⟨q, _, rfl⟩ := List.mem_map.1 hr
 exact rowTo_lt _ _
theorem sets_map {l : List DesN} {hk n m : Nat} (h : SetsOk l hk n) (f : DesN → DesN) (ho : ∀ d ∈ l, (f d).Ok) (hh : ∀ d ∈ l, (f d).hk = hk) (hr : ∀ d ∈ l, (f d).rows.length = m) : SetsOk (l.map f) hk m where
 l1 := by simpa using h.l1
 l10 := by simpa using h.l10
 ok := fun d hd => by obtain ⟨e, he, rfl⟩ := List.mem_map.1 hd; exact ho e he
 hk := fun d hd => by obtain ⟨e, he, rfl⟩ := List.mem_map.1 hd; exact hh e he
 rows := fun d hd => by obtain ⟨e, he, rfl⟩ := List.mem_map.1 hd; exact hr e he

theorem mir_ok {d : DesN} (h : d.Ok) : (mirrorN d).Ok := madeN_ok h.h1 h.h24 h.r1 h.r60
theorem bck_ok {d : DesN} (h : d.Ok) : (backN d).Ok := madeN_ok h.h1 h.h24 h.r1 h.r60
theorem abv_ok {a b : DesN} (ha : a.Ok) (hb : b.Ok) (hk : a.hk = b.hk) (h60 : a.rows.length + b.rows.length ≤ 60) : (aboveN a b).Ok where
 h1 := ha.h1
 h24 := ha.h24
 r1 := by have := ha.r1; simp [aboveN]; omega
 r60 := by simpa [aboveN] using h60
 lt := fun r hr => by
  rcases List.mem_append.1 hr with h | h
  ·exact ha.lt r h
  ·exact (by rw [show (aboveN a b).hk = b.hk from hk]; exact hb.lt r h)
theorem any_congr {α} {l : List α} {f g : α → Bool} (h : ∀ x ∈ l, f x = g x) : l.any f = l.any g := by
 refine Bool.eq_iff_iff.2 ?_
 simp only [List.any_eq_true]
 exact ⟨fun ⟨x, hx, e⟩ => ⟨x, hx, by rw [← h x hx]; exact e⟩, fun ⟨x, hx, e⟩ => ⟨x, hx, by rw [h x hx]; exact e⟩⟩

theorem atN_row {d : DesN} {q j : Nat} (hq : q < d.rows.length) (hj : j < d.hk) : atN d q j = (d.rows.getD q 0).testBit j := by
 unfold atN
 rw [Nat.mod_eq_of_lt hq, Nat.mod_eq_of_lt hj]
theorem mir_bit {d : DesN} {q j : Nat} (hq : q < d.rows.length) (hj : j < d.hk) : ((mirrorN d).rows.getD q 0).testBit j = (d.rows.getD q 0).testBit (d.hk - 1 - j) := by
 unfold mirrorN
 rw [made_bit _ hq hj, atN_row hq (by omega)]
theorem bck_bit {d : DesN} {q j : Nat} (hq : q < d.rows.length) (hj : j < d.hk) : ((backN d).rows.getD q 0).testBit j = !(d.rows.getD q 0).testBit j := by
 unfold backN
 rw [made_bit _ hq hj, atN_row hq hj]
theorem sets_mir {l : List DesN} {hk n : Nat} (h : SetsOk l hk n) : SetsOk (l.map mirrorN) hk n :=
 sets_map h _ (fun d hd => mir_ok (h.ok d hd)) (fun d hd => h.hk d hd) fun d hd => by rw [mirrorN, made_len, h.rows d hd]
theorem first_mir {l : List DesN} {hk n : Nat} (h : SetsOk l hk n) : firstN false hk n (l.map mirrorN) = mirrorN (firstN false hk n l) := by
 refine des_ext (n := n) (first_lt (sets_mir h) false) (made_lt _ _ _) rfl (first_len ..) (by rw [mirrorN, made_len, first_len]) fun q j hq hj => ?_
 have hj : j < hk := hj
 rw [first_bit (sets_mir h) false hq hj, List.any_map]
 rw [mir_bit (d := firstN false hk n l) (by rw [first_len]; exact hq) hj]
 change _ = ((firstN false hk n l).rows.getD q 0).testBit (hk - 1 - j)
 rw [first_bit h false hq (by omega)]
 congr 1
 refine any_congr fun d hd => ?_
 have e1 := h.hk d hd
 have e2 := h.rows d hd
 simp only [Function.comp]
 rw [mir_bit (by omega) (by omega), e1]

theorem sets_abv {l : List DesN} {hk n : Nat} (h : SetsOk l hk n) (h30 : n ≤ 30) {b : DesN} (hb : b ∈ l) : SetsOk (l.map fun d => aboveN d b) hk (n + n) :=
 sets_map h _ (fun d hd => abv_ok (h.ok d hd) (h.ok b hb) (by rw [h.hk d hd, h.hk b hb]) (by rw [h.rows d hd, h.rows b hb]; omega)) (fun d hd => h.hk d hd) fun d hd => by simp [aboveN, h.rows d hd, h.rows b hb]
theorem first_abv {l : List DesN} {hk n : Nat} (h : SetsOk l hk n) (h30 : n ≤ 30) {b : DesN} (hb : b ∈ l) : firstN false hk (n + n) (l.map fun d => aboveN d b) = aboveN (firstN false hk n l) b := by
 have hS := sets_abv h h30 hb
 have f1 := first_is h false
 have b1 := h.ok b hb
 have e1 := h.hk b hb
 have e2 := h.rows b hb
 refine des_ext (n := n + n) (first_lt hS false) (abv_ok f1 b1 (by rw [e1]; rfl) (by rw [first_len]; omega)).lt rfl (first_len ..) (by simp [aboveN, first_len, e2]) fun q j hq hj => ?_
 have hj : j < hk := hj
 rw [first_bit hS false hq hj, List.any_map]
 by_cases hqn : q < n
 ·have : (aboveN (firstN false hk n l) b).rows.getD q 0 = (firstN false hk n l).rows.getD q 0 := by
   unfold aboveN
   rw [List.getD_eq_getElem?_getD, List.getElem?_append_left (by rw [first_len]; exact hqn), ← List.getD_eq_getElem?_getD]
  rw [this, first_bit h false hqn hj]
  congr 1
  refine any_congr fun d hd => ?_
  simp only [Function.comp, aboveN]
  rw [List.getD_eq_getElem?_getD, List.getElem?_append_left (by rw [h.rows d hd]; exact hqn), ← List.getD_eq_getElem?_getD]
 ·have : (aboveN (firstN false hk n l) b).rows.getD q 0 = b.rows.getD (q - n) 0 := by
   unfold aboveN
   rw [List.getD_eq_getElem?_getD, List.getElem?_append_right (by rw [first_len]; omega), ← List.getD_eq_getElem?_getD, first_len]
  rw [this, Bool.xor_false]
  rw [any_congr (g := fun _ => (b.rows.getD (q - n) 0).testBit j) (fun d hd => by
   simp only [Function.comp, aboveN]
   rw [List.getD_eq_getElem?_getD, List.getElem?_append_right (by rw [h.rows d hd]; omega), ← List.getD_eq_getElem?_getD, h.rows d hd, Bool.xor_false])]
  have : l ≠ [] := fun e => by rw [e] at hb; cases hb
  cases l with
  | nil => exact absurd rfl this
  | cons x l => cases (b.rows.getD (q - n) 0).testBit j <;> simp

theorem sets_bck {l : List DesN} {hk n : Nat} (h : SetsOk l hk n) : SetsOk (l.map backN) hk n :=
 sets_map h _ (fun d hd => bck_ok (h.ok d hd)) (fun d hd => h.hk d hd) fun d hd => by rw [backN, made_len, h.rows d hd]
theorem first_bck {l : List DesN} {hk n : Nat} (h : SetsOk l hk n) : firstN true hk n (l.map backN) = backN (firstN false hk n l) := by
 refine des_ext (n := n) (first_lt (sets_bck h) true) (made_lt _ _ _) rfl (first_len ..) (by rw [backN, made_len, first_len]) fun q j hq hj => ?_
 have hj : j < hk := hj
 rw [first_bit (sets_bck h) true hq hj, List.any_map]
 rw [bck_bit (d := firstN false hk n l) (by rw [first_len]; exact hq) hj, first_bit h false hq hj, Bool.xor_true, Bool.xor_false]
 congr 1
 refine any_congr fun d hd => ?_
 have e1 := h.hk d hd
 have e2 := h.rows d hd
 simp only [Function.comp]
 rw [bck_bit (by omega) (by omega)]
 simp

/-! ## a copy that lost holes -/
theorem pair_sets {l : List DesN} {hk n : Nat} (h : SetsOk l hk n) {d : DesN} (hd : d.Ok) (e1 : d.hk = hk) (e2 : d.rows.length = n) {c : DesN} (hc : c ∈ l) : SetsOk [d, c] hk n where
 l1 := by simp
 l10 := by simp
 ok := fun x hx => by
  simp only [List.mem_cons, List.not_mem_nil, or_false] at hx
  rcases hx with rfl | rfl
  ·exact hd
  ·exact h.ok _ hc
 hk := fun x hx => by
  simp only [List.mem_cons, List.not_mem_nil, or_false] at hx
  rcases hx with rfl | rfl
  ·exact e1
  ·exact h.hk _ hc
 rows := fun x hx => by
  simp only [List.mem_cons, List.not_mem_nil, or_false] at hx
  rcases hx with rfl | rfl
  ·exact e2
  ·exact h.rows _ hc
theorem turn_no (hk : Nat) (l : List Nat) : turnL false hk l = l := by
 have : turnR false hk = id := funext fun x => by simp [turnR]
 unfold turnL
 rw [this, List.map_id]
theorem made_sub {d c : DesN} {hk n : Nat} (h : ∀ q j, (c.rows.getD q 0).testBit j = true → (d.rows.getD q 0).testBit j = true) : madeB false hk n d c = true := by
 unfold madeB
 rw [turn_no, turn_no]
 unfold subB
 refine List.all_eq_true.2 fun q _ => decide_eq_true ?_
 exact subN_zero.2 fun j hj => h q j hj
theorem made_many {d c : DesN} {hk : Nat} (h : ∀ q j, (c.rows.getD q 0).testBit j = true → (d.rows.getD q 0).testBit j = true) (n : Nat) : Cp.madeN false hk n d c = manyT d c n := by
 unfold Cp.madeN
 rw [made_sub h, if_pos rfl, turn_no, turn_no]
 unfold lostN
 induction n with
 | zero => rfl
 | succ n ih =>
  unfold lostT manyT
  rw [ih]
  congr 2
  apply Nat.eq_of_testBit_eq
  intro j
  unfold xorAt atR
  rw [subN_bit, Nat.testBit_xor]
  have := h n j
  cases e1 : (c.rows.getD n 0).testBit j <;> cases e2 : (d.rows.getD n 0).testBit j <;> simp_all
end Go.Abs
