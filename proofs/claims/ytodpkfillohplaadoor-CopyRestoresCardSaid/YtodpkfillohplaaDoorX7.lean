/-
 Chapter 12: originals and copies, by the program and by the document. No condition beyond those that each theorem names.
-/
import Derived.Test.YtodpkfillohplaaDoorX6
import Derived.Test.YtodpkfillohplaaDoorM3
set_option linter.all false
namespace Go.Abs
set_option maxRecDepth 10000
set_option maxHeartbeats 4000000

theorem design_ok (t : Bool) (hk : Nat) (hh : hk ≤ 24) (l : List Nat) (hl : l.length ≤ 1000) (h1 : 1 ≤ l.length) (hlt : ∀ r ∈ l, r < 2 ^ hk) : lim F 62 [.agg [iv (hk : Int), .bool t], .list 1 (natsV l)] = some (.agg [iv (hk : Int), .own 1 (natsV (turnL t hk l))], []) := by
 have h := turn_ok t hk hh l hl h1 hlt
 have hpl := nats_plain (turnL t hk l)
 have htk : (natsV (turnL t hk l)).take l.length = natsV (turnL t hk l) := List.take_of_length_le (by simp)
 have hn : (natsV (turnL t hk l)).length = l.length := by simp
 generalize natsV (turnL t hk l) = L at *
 generalize natsV l = es at *
 refine lim_by (fn := a62) (k := 2) (res := [.cell 4 2 true]) rfl rfl rfl (by simp -implicitDefEqProofs (maxSteps := 2000000) (disch := first | exact tt_rfl rfl | omega | (simp only [go_sem] <;> omega) | fail) only [go_sem]) ?_
 try delta mvA
 try delta opA
 try delta tA
 simp -implicitDefEqProofs (maxSteps := 2000000) (disch := first | exact tt_rfl rfl | omega | (simp only [go_sem] <;> omega) | fail) only [go_sem]
 repeat (first | apply Wp.seqA | apply Wp.skipS | apply Wp.blockS | ((first | apply Wp.regS | apply Wp.condV | apply Wp.reg | apply Wp.condW | apply fin_ret); simp -implicitDefEqProofs (maxSteps := 2000000) (disch := first | exact tt_rfl rfl | omega | (simp only [go_sem] <;> omega) | fail) only [go_sem, h, hpl, htk, hn] <;> try with_reducible rfl) | apply Wp.block | apply Wp.exitS | apply Wp.retS | apply Wp.exit | apply Wp.ret | apply Wp.skip)
def firstN (t : Bool) (hk n : Nat) (l : List DesN) : DesN := ⟨hk, turnL t hk (joinN (setsN t hk l) n)⟩
theorem up24 {x hk : Nat} (h : x < 2 ^ hk) (h' : hk ≤ 24) : x < 2 ^ 24 := Nat.lt_of_lt_of_le h (Nat.pow_le_pow_right (by omega) h')
theorem pair_ok {a b : DesN} {hk n : Nat} (h : SetsOk [a, b] hk n) : (a.Ok ∧ b.Ok) ∧ (a.hk = hk ∧ b.hk = hk) ∧ a.rows.length = n ∧ b.rows.length = n :=
 ⟨⟨h.ok a (by simp), h.ok b (by simp)⟩, ⟨h.hk a (by simp), h.hk b (by simp)⟩, h.rows a (by simp), h.rows b (by simp)⟩
def madeB (t : Bool) (hk n : Nat) (a b : DesN) : Bool := subB (turnL t hk a.rows) (turnL t hk b.rows) n
def madeN (t : Bool) (hk n : Nat) (a b : DesN) : Nat := if madeB t hk n a b then lostN (turnL t hk a.rows) (turnL t hk b.rows) n else 0
theorem madeN_le (t : Bool) (hk n : Nat) (a b : DesN) : madeN t hk n a b ≤ 24 * n := by
 unfold madeN
 split
 ·exact lostT_le _ _ n
 ·omega
theorem Hole_ok (d : DesN) (hd : d.Ok) (i h : Nat) (hi : i < d.rows.length) (hh : h ≤ 24) : lim F 64 [setV d, iv (i : Int), iv (h : Int)] = some (.bool ((d.rows.getD i 0).testBit h), []) := by
 have hg := nats_at hi
 have hlt := hd.at24 hi
 have hn : (natsV d.rows).length = d.rows.length := by simp
 have u1 : IntKind.wrap .u64 (h : Int) = h := wrap_u64 (by omega) (by omega)
 unfold setV
 generalize d.rows.getD i 0 = r at *
 have s1 := w_shr r h (by omega)
 have sb : r >>> h < 9223372036854775808 := by rw [Nat.shiftRight_eq_div_pow]; have := Nat.div_le_self r (2 ^ h); omega
 have s2 := w_and1 (r >>> h) sb
 have eb := bit_eq r h
 generalize r.testBit h = b at *
 generalize r >>> h &&& 1 = y at *
 generalize r >>> h = z at *
 generalize natsV d.rows = rs at *
 refine lim_by (fn := a64) (k := 3) (res := [.tmp 6]) rfl rfl rfl (by simp -implicitDefEqProofs (maxSteps := 2000000) (disch := first | exact tt_rfl rfl | omega | (simp only [go_sem] <;> omega) | fail) only [go_sem]) ?_
 try delta mvA
 try delta opA
 try delta tA
 simp -implicitDefEqProofs (maxSteps := 2000000) (disch := first | exact tt_rfl rfl | omega | (simp only [go_sem] <;> omega) | fail) only [go_sem]
 repeat (first | apply Wp.seqA | apply Wp.skipS | apply Wp.blockS | ((first | apply Wp.regS | apply Wp.condV | apply Wp.reg | apply Wp.condW | apply fin_ret); simp -implicitDefEqProofs (maxSteps := 2000000) (disch := first | exact tt_rfl rfl | omega | (simp only [go_sem] <;> omega) | fail) only [go_sem, hg, hn, u1, s1, s2, eb, Int.toNat_natCast] <;> try with_reducible rfl) | apply Wp.block | apply Wp.exitS | apply Wp.retS | apply Wp.exit | apply Wp.ret | apply Wp.skip)

/-! ### the document's copies -/
/-- so far no point of a row contradicts -/
def bitOk (x y : Nat) (h : Nat) : Prop := ∀ q, q < h → ¬ (y.testBit q = true ∧ x.testBit q = false)
theorem subN_ok {x y hk : Nat} (hy : y < 2 ^ hk) (h : bitOk x y hk) : subN y x = 0 := by
 rw [subN_zero]
 intro j hj
 by_cases hlt : j < hk
 ·cases hx : x.testBit j
  ·exact absurd ⟨hj, hx⟩ (h j hlt)
  ·rfl
 ·rw [Nat.testBit_lt_two_pow (Nat.lt_of_lt_of_le hy (Nat.pow_le_pow_right (by omega) (by omega)))] at hj
  cases hj
theorem bitsN_top {x hk n : Nat} (hx : x < 2 ^ hk) (h : hk ≤ n) : bitsN x n = bitsN x hk := by
 obtain ⟨m, rfl⟩ := Nat.exists_eq_add_of_le h
 rw [bitsN_add]
 have : x >>> hk = 0 := by rw [Nat.shiftRight_eq_div_pow]; exact Nat.div_eq_of_lt hx
 rw [this]
 simp [bitsN]
theorem refMade_ok {a b : DesN} {hk n : Nat} (h : SetsOk [a, b] hk n) (t : Bool) : lim F 25 [iv (wayOf t), setV a, setV b] = some (.tuple [.bool (madeB t hk n a b), iv ((madeN t hk n a b : Nat) : Int)], []) := by
 obtain ⟨⟨o1, o2⟩, ⟨e1, e2⟩, r1, r2⟩ := pair_ok h
 obtain ⟨⟨k1, k2⟩, k3, k4⟩ := h.k1
 have hA := fun i q hi hq => Hole_ok a o1 i q hi hq
 have hB := fun i q hi hq => Hole_ok b o2 i q hi hq
 rw [r1] at hA
 rw [r2] at hB
 have hn1 : (natsV a.rows).length = n := by simp [r1]
 have hxa : ∀ i, i < n → ∀ q, q < hk → (atR (turnL t hk a.rows) i).testBit q = ((a.rows.getD i 0).testBit q ^^ t) := fun i hi q hq => by
  unfold atR; rw [turnL_at _ _ _ (by omega), turnR_bit hq]
 have hxb : ∀ i, i < n → ∀ q, q < hk → (atR (turnL t hk b.rows) i).testBit q = ((b.rows.getD i 0).testBit q ^^ t) := fun i hi q hq => by
  unfold atR; rw [turnL_at _ _ _ (by omega), turnR_bit hq]
 have hla : ∀ i, i < n → atR (turnL t hk a.rows) i < 2 ^ hk := fun i hi => by
  unfold atR; rw [turnL_at _ _ _ (by omega)]
  exact turnR_lt (by rw [← e1]; exact o1.at (by omega))
 have hlb : ∀ i, i < n → atR (turnL t hk b.rows) i < 2 ^ hk := fun i hi => by
  unfold atR; rw [turnL_at _ _ _ (by omega)]
  exact turnR_lt (by rw [← e2]; exact o2.at (by omega))
 have hle := lostT_le (atR (turnL t hk a.rows)) (atR (turnL t hk b.rows))
 have hst : ∀ i, lostN (turnL t hk a.rows) (turnL t hk b.rows) (i + 1) = lostN (turnL t hk a.rows) (turnL t hk b.rows) i + bitsN (subN (atR (turnL t hk a.rows) i) (atR (turnL t hk b.rows) i)) 24 := fun i => rfl
 unfold madeN madeB
 have hbad : ∀ i q, i < n → q < hk → (atR (turnL t hk b.rows) i).testBit q = true → (atR (turnL t hk a.rows) i).testBit q = false → subB (turnL t hk a.rows) (turnL t hk b.rows) n = false := fun i q hi hq h1 h2 => by
  unfold subB
  rw [List.all_eq_false]
  refine ⟨i, List.mem_range.2 hi, ?_⟩
  simp only [decide_eq_true_eq]
  intro hz
  have := subN_zero.1 hz q h1
  rw [h2] at this; cases this
 have hgood : (∀ i, i < n → subN (atR (turnL t hk b.rows) i) (atR (turnL t hk a.rows) i) = 0) → subB (turnL t hk a.rows) (turnL t hk b.rows) n = true := fun hg => by
  unfold subB
  exact List.all_eq_true.2 fun j hj => decide_eq_true (hg j (List.mem_range.1 hj))
 generalize turnL t hk a.rows = A at *
 generalize turnL t hk b.rows = B at *
 unfold setV at *
 rw [e1] at hA
 rw [e2] at hB
 rw [e1, e2]
 generalize natsV a.rows = ra at *
 generalize natsV b.rows = rb at *
 refine lim_by (fn := a25) (k := 3) (res := [.tmp 6, .tmp 7]) rfl rfl rfl (by simp -implicitDefEqProofs (maxSteps := 2000000) (disch := first | exact tt_rfl rfl | omega | (simp only [go_sem] <;> omega) | fail) only [go_sem]) ?_
 try delta mvA
 try delta opA
 try delta tA
 simp -implicitDefEqProofs (maxSteps := 2000000) (disch := first | exact tt_rfl rfl | omega | (simp only [go_sem] <;> omega) | fail) only [go_sem]
 repeat (first | apply Wp.seqA | apply Wp.skipS | apply Wp.blockS | ((first | apply Wp.regS | apply Wp.condV | apply Wp.reg | apply Wp.condW | apply fin_ret); simp -implicitDefEqProofs (maxSteps := 2000000) (disch := first | exact tt_rfl rfl | omega | (simp only [go_sem] <;> omega) | fail) only [go_sem] <;> try with_reducible rfl) | apply Wp.block | apply Wp.exitS | apply Wp.retS | apply Wp.exit | apply Wp.ret | apply Wp.skip)
 apply Wp.loopF n (fun i => ⟨[(0, iv (wayOf t)), (4, .ptr 256 0 0), (5, .ptr 320 0 0), (8, iv ((lostN A B i : Nat) : Int)), (9, iv (i : Int))], [(256, .box [iv (hk : Int), .list 1 ra]), (320, .box [iv (hk : Int), .list 1 rb])], [], 10000000⟩) (fun i => ∀ j, j < i → subN (atR B j) (atR A j) = 0)
 ·simp -implicitDefEqProofs (maxSteps := 2000000) (disch := first | exact tt_rfl rfl | omega | (simp only [go_sem] <;> omega) | fail) only [go_sem, norm_eq, Ok.some]
  rfl
 ·intro j h; omega
 intro i hi hm
 by_cases h' : i < n
 ·have x1 := hla i h'
  have x2 := hlb i h'
  have hs := hst i
  have hl1 : lostN A B i ≤ 24 * i := hle i
  have y1 := hxa i h'
  have y2 := hxb i h'
  have z1 := fun q hq => hA i q h' hq
  have z2 := fun q hq => hB i q h' hq
  have hb1 := fun q h1 h2 h3 => hbad i q h' h1 h2 h3
  have hbs : ∀ q, bitsN (subN (atR A i) (atR B i)) (q + 1) = bitsN (subN (atR A i) (atR B i)) q + ((atR A i).testBit q && !(atR B i).testBit q).toNat := fun q => by rw [bitsN_succ, subN_bit]
  have hbl : ∀ q, bitsN (subN (atR A i) (atR B i)) q ≤ q := fun q => by
   unfold bitsN
   exact Nat.le_trans (List.length_filter_le _ _) (by simp)
  repeat (first | apply Wp.seqA | apply Wp.skipS | apply Wp.blockS | ((first | apply Wp.regS | apply Wp.condV | apply Wp.reg | apply Wp.condW | apply fin_ret); simp -implicitDefEqProofs (maxSteps := 2000000) (disch := first | exact tt_rfl rfl | omega | (simp only [go_sem] <;> omega) | fail) only [go_sem, h', Int.ofNat_lt, hn1] <;> try with_reducible rfl) | apply Wp.block | apply Wp.exitS | apply Wp.retS | apply Wp.exit | apply Wp.ret | apply Wp.skip)
  apply Wp.loopF hk (fun q => ⟨[(0, iv (wayOf t)), (4, .ptr 256 0 0), (5, .ptr 320 0 0), (8, iv ((lostN A B i + bitsN (subN (atR A i) (atR B i)) q : Nat) : Int)), (9, iv (i : Int)), (10, iv (q : Int))], [(256, .box [iv (hk : Int), .list 1 ra]), (320, .box [iv (hk : Int), .list 1 rb])], [], 10000000⟩) (fun q => bitOk (atR A i) (atR B i) q)
  ·simp -implicitDefEqProofs (maxSteps := 2000000) (disch := first | exact tt_rfl rfl | omega | (simp only [go_sem] <;> omega) | fail) only [go_sem, norm_eq, Ok.some]
   rfl
  ·intro q hq; omega
  intro q hq hbo
  by_cases hq' : q < hk
  ·have c1 := z1 q (by omega)
   have c2 := z2 q (by omega)
   have c3 := y1 q hq'
   have c4 := y2 q hq'
   have c5 := hbs q
   have c6 := hb1 q hq'
   have c7 := hbl q
   rw [c3, c4] at c5 c6
   have hbo' : ¬ (((b.rows.getD i 0).testBit q ^^ t) = true ∧ ((a.rows.getD i 0).testBit q ^^ t) = false) → bitOk (atR A i) (atR B i) (q + 1) := fun hh p hp => by
    by_cases e : p = q
    ·subst e; rw [c3, c4]; exact hh
    ·exact hbo p (by omega)
   rw [c5]
   clear hA hB hxa hxb hla hlb hbad y1 y2 z1 z2 hb1 hbs hbl hst hle
   generalize bitsN (subN (atR A i) (atR B i)) q = bn at *
   generalize lostN A B i = ln at *
   generalize (a.rows.getD i 0).testBit q = ba at *
   generalize (b.rows.getD i 0).testBit q = bb at *
   have es : ((ln + bn : Nat) : Int) + 1 = ((ln + bn + 1 : Nat) : Int) := by omega
   cases t <;> cases ba <;> cases bb
   ·repeat (first | apply Wp.seqA | apply Wp.skipS | apply Wp.blockS | ((first | apply Wp.regS | apply Wp.condV | apply Wp.reg | apply Wp.condW | apply fin_ret); simp -implicitDefEqProofs (maxSteps := 2000000) (disch := first | exact tt_rfl rfl | omega | (simp only [go_sem] <;> omega) | fail) only [go_sem, hq', h', Int.ofNat_lt, hn1, c1, c2, es, wayOf, ite_true, ite_false, Bool.false_eq_true] <;> try with_reducible rfl) | apply Wp.block | apply Wp.exitS | apply Wp.retS | apply Wp.exit | apply Wp.ret | apply Wp.skip)
    apply round_next
    ·simp -implicitDefEqProofs (maxSteps := 2000000) (disch := first | exact tt_rfl rfl | omega | (simp only [go_sem] <;> omega) | fail) only [go_sem, norm_eq, Ok.some]; with_reducible rfl
    exact ⟨hq', by simp [wayOf], hbo' (by simp)⟩
   ·rw [c6 rfl rfl]
    repeat (first | apply Wp.seqA | apply Wp.skipS | apply Wp.blockS | ((first | apply Wp.regS | apply Wp.condV | apply Wp.reg | apply Wp.condW | apply fin_ret); simp -implicitDefEqProofs (maxSteps := 2000000) (disch := first | exact tt_rfl rfl | omega | (simp only [go_sem] <;> omega) | fail) only [go_sem, hq', h', Int.ofNat_lt, hn1, c1, c2, es, wayOf, ite_true, ite_false, Bool.false_eq_true, Int.natCast_zero] <;> try with_reducible rfl) | apply Wp.block | apply Wp.exitS | apply Wp.retS | apply Wp.exit | apply Wp.ret | apply Wp.skip)
   ·repeat (first | apply Wp.seqA | apply Wp.skipS | apply Wp.blockS | ((first | apply Wp.regS | apply Wp.condV | apply Wp.reg | apply Wp.condW | apply fin_ret); simp -implicitDefEqProofs (maxSteps := 2000000) (disch := first | exact tt_rfl rfl | omega | (simp only [go_sem] <;> omega) | fail) only [go_sem, hq', h', Int.ofNat_lt, hn1, c1, c2, es, wayOf, ite_true, ite_false, Bool.false_eq_true] <;> try with_reducible rfl) | apply Wp.block | apply Wp.exitS | apply Wp.retS | apply Wp.exit | apply Wp.ret | apply Wp.skip)
    apply round_next
    ·simp -implicitDefEqProofs (maxSteps := 2000000) (disch := first | exact tt_rfl rfl | omega | (simp only [go_sem] <;> omega) | fail) only [go_sem, norm_eq, Ok.some]; with_reducible rfl
    exact ⟨hq', by simp [wayOf]; omega, hbo' (by simp)⟩
   ·repeat (first | apply Wp.seqA | apply Wp.skipS | apply Wp.blockS | ((first | apply Wp.regS | apply Wp.condV | apply Wp.reg | apply Wp.condW | apply fin_ret); simp -implicitDefEqProofs (maxSteps := 2000000) (disch := first | exact tt_rfl rfl | omega | (simp only [go_sem] <;> omega) | fail) only [go_sem, hq', h', Int.ofNat_lt, hn1, c1, c2, es, wayOf, ite_true, ite_false, Bool.false_eq_true] <;> try with_reducible rfl) | apply Wp.block | apply Wp.exitS | apply Wp.retS | apply Wp.exit | apply Wp.ret | apply Wp.skip)
    apply round_next
    ·simp -implicitDefEqProofs (maxSteps := 2000000) (disch := first | exact tt_rfl rfl | omega | (simp only [go_sem] <;> omega) | fail) only [go_sem, norm_eq, Ok.some]; with_reducible rfl
    exact ⟨hq', by simp [wayOf], hbo' (by simp)⟩
   ·repeat (first | apply Wp.seqA | apply Wp.skipS | apply Wp.blockS | ((first | apply Wp.regS | apply Wp.condV | apply Wp.reg | apply Wp.condW | apply fin_ret); simp -implicitDefEqProofs (maxSteps := 2000000) (disch := first | exact tt_rfl rfl | omega | (simp only [go_sem] <;> omega) | fail) only [go_sem, hq', h', Int.ofNat_lt, hn1, c1, c2, es, wayOf, ite_true, ite_false, Bool.false_eq_true] <;> try with_reducible rfl) | apply Wp.block | apply Wp.exitS | apply Wp.retS | apply Wp.exit | apply Wp.ret | apply Wp.skip)
    apply round_next
    ·simp -implicitDefEqProofs (maxSteps := 2000000) (disch := first | exact tt_rfl rfl | omega | (simp only [go_sem] <;> omega) | fail) only [go_sem, norm_eq, Ok.some]; with_reducible rfl
    exact ⟨hq', by simp [wayOf], hbo' (by simp)⟩
   ·repeat (first | apply Wp.seqA | apply Wp.skipS | apply Wp.blockS | ((first | apply Wp.regS | apply Wp.condV | apply Wp.reg | apply Wp.condW | apply fin_ret); simp -implicitDefEqProofs (maxSteps := 2000000) (disch := first | exact tt_rfl rfl | omega | (simp only [go_sem] <;> omega) | fail) only [go_sem, hq', h', Int.ofNat_lt, hn1, c1, c2, es, wayOf, ite_true, ite_false, Bool.false_eq_true] <;> try with_reducible rfl) | apply Wp.block | apply Wp.exitS | apply Wp.retS | apply Wp.exit | apply Wp.ret | apply Wp.skip)
    apply round_next
    ·simp -implicitDefEqProofs (maxSteps := 2000000) (disch := first | exact tt_rfl rfl | omega | (simp only [go_sem] <;> omega) | fail) only [go_sem, norm_eq, Ok.some]; with_reducible rfl
    exact ⟨hq', by simp [wayOf]; omega, hbo' (by simp)⟩
   ·rw [c6 rfl rfl]
    repeat (first | apply Wp.seqA | apply Wp.skipS | apply Wp.blockS | ((first | apply Wp.regS | apply Wp.condV | apply Wp.reg | apply Wp.condW | apply fin_ret); simp -implicitDefEqProofs (maxSteps := 2000000) (disch := first | exact tt_rfl rfl | omega | (simp only [go_sem] <;> omega) | fail) only [go_sem, hq', h', Int.ofNat_lt, hn1, c1, c2, es, wayOf, ite_true, ite_false, Bool.false_eq_true, Int.natCast_zero] <;> try with_reducible rfl) | apply Wp.block | apply Wp.exitS | apply Wp.retS | apply Wp.exit | apply Wp.ret | apply Wp.skip)
   ·repeat (first | apply Wp.seqA | apply Wp.skipS | apply Wp.blockS | ((first | apply Wp.regS | apply Wp.condV | apply Wp.reg | apply Wp.condW | apply fin_ret); simp -implicitDefEqProofs (maxSteps := 2000000) (disch := first | exact tt_rfl rfl | omega | (simp only [go_sem] <;> omega) | fail) only [go_sem, hq', h', Int.ofNat_lt, hn1, c1, c2, es, wayOf, ite_true, ite_false, Bool.false_eq_true] <;> try with_reducible rfl) | apply Wp.block | apply Wp.exitS | apply Wp.retS | apply Wp.exit | apply Wp.ret | apply Wp.skip)
    apply round_next
    ·simp -implicitDefEqProofs (maxSteps := 2000000) (disch := first | exact tt_rfl rfl | omega | (simp only [go_sem] <;> omega) | fail) only [go_sem, norm_eq, Ok.some]; with_reducible rfl
    exact ⟨hq', by simp [wayOf], hbo' (by simp)⟩
  ·obtain rfl : q = hk := by omega
   have hz := subN_ok x2 hbo
   have hnext : ∀ j, j < i + 1 → subN (atR B j) (atR A j) = 0 := fun j hj => by
    by_cases e : j = i
    ·subst e; exact hz
    ·exact hm j (by omega)
   have e1 : bitsN (subN (atR A i) (atR B i)) 24 = bitsN (subN (atR A i) (atR B i)) q := bitsN_top (subN_lt x1) k2
   rw [hs, e1]
   generalize lostN A B i + bitsN (subN (atR A i) (atR B i)) q = nn at *
   repeat (first | apply Wp.seqA | apply Wp.skipS | apply Wp.blockS | ((first | apply Wp.regS | apply Wp.condV | apply Wp.reg | apply Wp.condW | apply fin_ret); simp -implicitDefEqProofs (maxSteps := 2000000) (disch := first | exact tt_rfl rfl | omega | (simp only [go_sem] <;> omega) | fail) only [go_sem, Int.lt_irrefl] <;> try with_reducible rfl) | apply Wp.block | apply Wp.exitS | apply Wp.retS | apply Wp.exit | apply Wp.ret | apply Wp.skip)
   apply round_next
   ·simp -implicitDefEqProofs (maxSteps := 2000000) (disch := first | exact tt_rfl rfl | omega | (simp only [go_sem] <;> omega) | fail) only [go_sem, norm_eq, Ok.some]; with_reducible rfl
   exact ⟨h', by simp, hnext⟩
 ·obtain rfl : i = n := by omega
  rw [hgood hm, if_pos rfl]
  repeat (first | apply Wp.seqA | apply Wp.skipS | apply Wp.blockS | ((first | apply Wp.regS | apply Wp.condV | apply Wp.reg | apply Wp.condW | apply fin_ret); simp -implicitDefEqProofs (maxSteps := 2000000) (disch := first | exact tt_rfl rfl | omega | (simp only [go_sem] <;> omega) | fail) only [go_sem, Int.lt_irrefl, hn1] <;> try with_reducible rfl) | apply Wp.block | apply Wp.exitS | apply Wp.retS | apply Wp.exit | apply Wp.ret | apply Wp.skip)
end Go.Abs
