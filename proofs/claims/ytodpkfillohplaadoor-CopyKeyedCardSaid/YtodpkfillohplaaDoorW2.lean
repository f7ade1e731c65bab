/-
 Several texts: W1, W2.
-/
import Derived.Test.YtodpkfillohplaaDoorX3
import Derived.Test.YtodpkfillohplaaDoorX7
set_option linter.all false
namespace Go.Abs
set_option maxRecDepth 10000
set_option maxHeartbeats 4000000
abbrev ByteB := Fin 256
abbrev QuadB := Fin 4294967296
def quadsV (l : List QuadB) : List AV := l.map fun r => .int .u32 (r.1 : Int)
@[simp] theorem quads_len (l : List QuadB) : (quadsV l).length = l.length := by simp [quadsV]
def threeV (c : ByteB × ByteB × ByteB) : AV := .agg [.int .u8 (c.1.1 : Int), .int .u8 (c.2.1.1 : Int), .int .u8 (c.2.2.1 : Int)]
structure PressB where
 hk : ByteB
 rows : List QuadB
 way : ByteB
 copies : List (ByteB × ByteB × ByteB)
def PressB.av (x : PressB) : AV := .agg [.int .u8 (x.hk.1 : Int), .list 1 (quadsV x.rows), .int .u8 (x.way.1 : Int), .list 3 (x.copies.map threeV)]
def qsrc (l : List QuadB) (i : Nat) : Nat := (l[i]?.map fun r => r.1).getD 5
theorem qsrc_lt (l : List QuadB) (i : Nat) : qsrc l i < 4294967296 := by
 unfold qsrc;cases h : l[i]? with
 | none => simp
 | some r => exact r.2
theorem quads_at {l : List QuadB} {i : Nat} (h : i < l.length) : (quadsV l)[i]? = some (.int .u32 (qsrc l i : Int)) := by
 unfold qsrc quadsV;rw [List.getElem?_map, List.getElem?_eq_getElem h]; rfl
def origN (x : PressB) : DesN := ⟨1 + x.hk.1 % 12, (List.range (max 1 (min x.rows.length 6))).map fun i => qsrc x.rows i % 2 ^ (1 + x.hk.1 % 12)⟩
theorem orig_ok (x : PressB) : (origN x).Ok where
 h1 := by unfold origN; dsimp only; omega
 h24 := by unfold origN; dsimp only; omega
 r1 := by simp [origN]; omega
 r60 := by simp [origN]; omega
 lt := fun r hr => by
  obtain ⟨q, _, rfl⟩ := List.mem_map.1 hr;exact Nat.mod_lt _ (Nat.pow_pos (by omega))
theorem orig_hk (x : PressB) : 1 ≤ (origN x).hk ∧ (origN x).hk ≤ 12 := by unfold origN; dsimp only; omega
theorem orig_rows (x : PressB) : 1 ≤ (origN x).rows.length ∧ (origN x).rows.length ≤ 6 := by simp [origN]; omega
theorem original_ok (x : PressB) : lim F 48 [x.av] = some (.agg [iv ((origN x).hk : Int), .own 1 (natsV (origN x).rows)], []) := by
 have hv := x.hk.2;unfold origN PressB.av;dsimp only;generalize hv0 : x.hk.1 = v at *;generalize x.rows = l;have e0 : Int.tmod (v : Int) 12 = ((v % 12 : Nat) : Int) := by rw [Int.tmod_eq_emod_of_nonneg (Int.natCast_nonneg _)]; rfl
 have hml := Nat.mod_lt v (show 0 < 12 by omega)
 have hlen : (quadsV l).length = l.length := by simp
 have hg : ∀ i (h : i < l.length), (quadsV l)[i]? = some (.int .u32 (qsrc l i : Int)) := fun i h => quads_at h
 have hno : ∀ i, ¬ i < l.length → qsrc l i = 5 := fun i h => by
  unfold qsrc;rw [List.getElem?_eq_none (by omega)]; rfl
 have hhk : ((1 + v % 12 : Nat) : Int) = 1 + ((v % 12 : Nat) : Int) := by omega
 have hk8 : 1 + v % 12 ≤ 12 := by omega
 have u1 : IntKind.wrap .u64 (((1 + v % 12 : Nat) : Int)) = ((1 + v % 12 : Nat) : Int) := wrap_u64 (by omega) (by omega)
 generalize v % 12 = q at *;generalize hH : 1 + q = H at *;have s1 := w_shl1 H (by omega)
 have p1 : 2 ^ H ≤ 2 ^ 12 := Nat.pow_le_pow_right (by omega) (by omega)
 have p2 : 0 < 2 ^ H := Nat.pow_pos (by omega)
 have hstep : ∀ n, natsV ((List.range (n + 1)).map fun i => qsrc l i % 2 ^ H) = natsV ((List.range n).map fun i => qsrc l i % 2 ^ H) ++ [iv ((qsrc l n % 2 ^ H : Nat) : Int)] := fun n => by
  unfold natsV;rw [List.range_succ, List.map_append, List.map_append]; rfl
 have hnl : ∀ n, (natsV ((List.range n).map fun i => qsrc l i % 2 ^ H)).length = n := fun n => by simp
 have hpl : ∀ n, (natsV ((List.range n).map fun i => qsrc l i % 2 ^ H)).all AV.plain = true := fun n => nat_plain _
 have hlt := qsrc_lt l;generalize quadsV l = es at *;generalize x.copies.map threeV = cs;generalize ((x.way.1 : Nat) : Int) = wy;have e5 : Int.tmod 5 ((2 ^ H : Nat) : Int) = ((5 % 2 ^ H : Nat) : Int) := rfl;have h5 := Nat.mod_lt 5 p2;refine lim_by (fn := a48) (k := 1) (res := [.cell 2 2 true]) rfl rfl rfl (by simp -implicitDefEqProofs (maxSteps := 2000000) (disch := first | exact tt_rfl rfl | omega | (simp only [go_sem] <;> omega) | fail) only [go_sem]) ?_
 try delta mvA
 try delta opA
 try delta tA
 simp -implicitDefEqProofs (maxSteps := 2000000) (disch := first | exact tt_rfl rfl | omega | (simp only [go_sem] <;> omega) | fail) only [go_sem]
 repeat (first | apply Wp.seqA | apply Wp.skipS | apply Wp.blockS | ((first | apply Wp.regS | apply Wp.condV | apply Wp.reg | apply Wp.condW | apply fin_ret); simp -implicitDefEqProofs (maxSteps := 2000000) (disch := first | exact tt_rfl rfl | omega | (simp only [go_sem] <;> omega) | fail) only [go_sem, e0, ← hhk] <;> try with_reducible rfl) | apply Wp.block | apply Wp.exitS | apply Wp.retS | apply Wp.exit | apply Wp.ret | apply Wp.skip)
 generalize hN : max 1 (min l.length 6) = N at *;apply Wp.loopF N (fun i => ⟨[(1, .ptr 64 0 0), (2, .ptr 128 0 0), (3, .ptr 192 0 0), (4, iv (i : Int))], [(64, .box [.int .u8 (v : Int), .list 1 es, .int .u8 wy, .list 3 cs]), (128, .box [iv 0, .slice 302049 0 0]), (192, .box [iv (H : Int), .slice 303073 0 i]), (302049, .arr 1 []), (303073, .arr 1 (natsV ((List.range i).map fun i => qsrc l i % 2 ^ H)))], [], 10000000⟩) (fun _ => True)
 ·simp -implicitDefEqProofs (maxSteps := 2000000) (disch := first | exact tt_rfl rfl | omega | (simp only [go_sem] <;> omega) | fail) only [go_sem, norm_eq, Ok.some]
  rfl
 ·trivial
 intro i hi _;have n1 := hnl i;have P1 := hpl i;have t1 : (natsV ((List.range i).map fun i => qsrc l i % 2 ^ H)).take i = natsV ((List.range i).map fun i => qsrc l i % 2 ^ H) := List.take_of_length_le (by omega)
 by_cases h' : i < N
 ·rw [hstep i]
  have hcond : (i : Int) = 0 ∨ (¬ (i : Int) = 0 ∧ (i : Int) < l.length ∧ (i : Int) < 6) := by omega
  by_cases hl : i < l.length
  ·have a1 := hg i hl
   have w1 := hlt i;have e1 : Int.tmod ((qsrc l i : Nat) : Int) ((2 ^ H : Nat) : Int) = ((qsrc l i % 2 ^ H : Nat) : Int) := rfl;have e2 : qsrc l i % 2 ^ H < 2 ^ H := Nat.mod_lt _ p2;clear hstep hnl hpl hg hno hlt;generalize natsV ((List.range i).map fun i => qsrc l i % 2 ^ H) = L at *
   generalize qsrc l i % 2 ^ H = r at *;generalize qsrc l i = x at *;generalize 5 % 2 ^ H = five at *;generalize 2 ^ H = pk at *;rcases hcond with h0 | ⟨h0, h1, h2⟩
   ·have h0' := eq_true h0
    clear h0;repeat (first | apply Wp.seqA | apply Wp.skipS | apply Wp.blockS | ((first | apply Wp.regS | apply Wp.condV | apply Wp.reg | apply Wp.condW | apply fin_ret); simp -implicitDefEqProofs (maxSteps := 2000000) (disch := first | exact tt_rfl rfl | omega | (simp only [go_sem] <;> omega) | fail) only [go_sem, h0', hl, Int.ofNat_lt, hlen, a1, e1, e5, u1, s1, Int.toNat_natCast, n1, decide_true, decide_false, show ¬ (pk : Int) = 0 by omega] <;> try with_reducible rfl) | apply Wp.block | apply Wp.exitS | apply Wp.retS | apply Wp.exit | apply Wp.ret | apply Wp.skip)
    apply round_next
    ·simp -implicitDefEqProofs (maxSteps := 2000000) (disch := first | exact tt_rfl rfl | omega | (simp only [go_sem] <;> omega) | fail) only [go_sem, norm_eq, Ok.some]; with_reducible rfl
    exact ⟨h', by simp, trivial⟩
   ·repeat (first | apply Wp.seqA | apply Wp.skipS | apply Wp.blockS | ((first | apply Wp.regS | apply Wp.condV | apply Wp.reg | apply Wp.condW | apply fin_ret); simp -implicitDefEqProofs (maxSteps := 2000000) (disch := first | exact tt_rfl rfl | omega | (simp only [go_sem] <;> omega) | fail) only [go_sem, h0, h1, h2, hl, Int.ofNat_lt, hlen, a1, e1, e5, u1, s1, Int.toNat_natCast, n1, decide_true, decide_false, show ¬ (pk : Int) = 0 by omega] <;> try with_reducible rfl) | apply Wp.block | apply Wp.exitS | apply Wp.retS | apply Wp.exit | apply Wp.ret | apply Wp.skip)
    apply round_next
    ·simp -implicitDefEqProofs (maxSteps := 2000000) (disch := first | exact tt_rfl rfl | omega | (simp only [go_sem] <;> omega) | fail) only [go_sem, norm_eq, Ok.some]; with_reducible rfl
    exact ⟨h', by simp, trivial⟩
  ·have hi0 : i = 0 := by omega
   rw [hno i hl];generalize 5 % 2 ^ H = five at *;generalize 2 ^ H = pk at *;subst hi0;have h0' : (((0 : Nat) : Int) = 0) = True := eq_true rfl;repeat (first | apply Wp.seqA | apply Wp.skipS | apply Wp.blockS | ((first | apply Wp.regS | apply Wp.condV | apply Wp.reg | apply Wp.condW | apply fin_ret); simp -implicitDefEqProofs (maxSteps := 2000000) (disch := first | exact tt_rfl rfl | omega | (simp only [go_sem] <;> omega) | fail) only [go_sem, h0', hl, Int.ofNat_lt, hlen, n1, e5, u1, s1, Int.toNat_natCast, decide_true, decide_false, show ¬ (pk : Int) = 0 by omega] <;> try with_reducible rfl) | apply Wp.block | apply Wp.exitS | apply Wp.retS | apply Wp.exit | apply Wp.ret | apply Wp.skip)
   apply round_next
   ·simp -implicitDefEqProofs (maxSteps := 2000000) (disch := first | exact tt_rfl rfl | omega | (simp only [go_sem] <;> omega) | fail) only [go_sem, norm_eq, Ok.some]; with_reducible rfl
   exact ⟨h', by simp, trivial⟩
 ·obtain rfl : i = N := by omega
  have h0 : ¬ (i : Int) = 0 := by omega
  clear hstep hnl hpl hg hno hlt;generalize natsV ((List.range i).map fun i => qsrc l i % 2 ^ H) = L at *
  by_cases hl : (i : Int) < l.length
  ·repeat (first | apply Wp.seqA | apply Wp.skipS | apply Wp.blockS | ((first | apply Wp.regS | apply Wp.condV | apply Wp.reg | apply Wp.condW | apply fin_ret); simp -implicitDefEqProofs (maxSteps := 2000000) (disch := first | exact tt_rfl rfl | omega | (simp only [go_sem] <;> omega) | fail) only [go_sem, h0, hl, hlen, n1, P1, t1, decide_true, decide_false, show ¬ (i : Int) < 6 by omega] <;> try with_reducible rfl) | apply Wp.block | apply Wp.exitS | apply Wp.retS | apply Wp.exit | apply Wp.ret | apply Wp.skip)
  ·repeat (first | apply Wp.seqA | apply Wp.skipS | apply Wp.blockS | ((first | apply Wp.regS | apply Wp.condV | apply Wp.reg | apply Wp.condW | apply fin_ret); simp -implicitDefEqProofs (maxSteps := 2000000) (disch := first | exact tt_rfl rfl | omega | (simp only [go_sem] <;> omega) | fail) only [go_sem, h0, hl, hlen, n1, P1, t1, decide_true, decide_false] <;> try with_reducible rfl) | apply Wp.block | apply Wp.exitS | apply Wp.retS | apply Wp.exit | apply Wp.ret | apply Wp.skip)
end Go.Abs
set_option linter.all false
namespace Go.Abs
set_option maxRecDepth 10000
set_option maxHeartbeats 4000000
def chgI (d : DesN) (c : ByteB × ByteB × ByteB) (k : Nat) : Nat := (c.2.1.1 + 5 * k) % d.rows.length
def chgH (d : DesN) (c : ByteB × ByteB × ByteB) (k : Nat) : Nat := (c.2.2.1 + 3 * k) % d.hk
def chgB (t : Bool) (d : DesN) (c : ByteB × ByteB × ByteB) (l : List Nat) (k : Nat) : Bool := (l.getD (chgI d c k) 0).testBit (chgH d c k) ^^ t
def chgTo (t : Bool) (d : DesN) (c : ByteB × ByteB × ByteB) : Nat → List Nat × Nat
 | 0 => (d.rows, 0)
 | k + 1 => if chgB t d c (chgTo t d c k).1 k then ((chgTo t d c k).1.set (chgI d c k) ((chgTo t d c k).1.getD (chgI d c k) 0 ^^^ 2 ^ chgH d c k), (chgTo t d c k).2 + 1) else chgTo t d c k
def chgN (c : ByteB × ByteB × ByteB) : Nat := c.1.1 / 16 % 4
def chgD (t : Bool) (d : DesN) (c : ByteB × ByteB × ByteB) : DesN := ⟨d.hk, (chgTo t d c (chgN c)).1⟩
@[simp] theorem chgTo_len (t : Bool) (d : DesN) (c : ByteB × ByteB × ByteB) : ∀ k, (chgTo t d c k).1.length = d.rows.length
 | 0 => rfl
 | k + 1 => by
  unfold chgTo;split
  ·simp [chgTo_len t d c k]
  ·exact chgTo_len t d c k
theorem chgTo_le (t : Bool) (d : DesN) (c : ByteB × ByteB × ByteB) : ∀ k, (chgTo t d c k).2 ≤ k
 | 0 => Nat.le_refl _
 | k + 1 => by
  have := chgTo_le t d c k;unfold chgTo;split
  ·simp only; omega
  ·omega
theorem chgTo_lt (t : Bool) {d : DesN} (h : d.Ok) (c : ByteB × ByteB × ByteB) : ∀ k, ∀ r ∈ (chgTo t d c k).1, r < 2 ^ d.hk
 | 0 => h.lt
 | k + 1 => by
  have ih := chgTo_lt t h c k;unfold chgTo;split
  ·intro r hr
   rcases List.mem_or_eq_of_mem_set hr with hr | rfl
   ·exact ih r hr
   ·have hi : chgI d c k < (chgTo t d c k).1.length := by rw [chgTo_len]; exact Nat.mod_lt _ h.r1
    have hh : chgH d c k < d.hk := Nat.mod_lt _ h.h1;rw [rows_get hi];exact Nat.xor_lt_two_pow (ih _ (List.getElem_mem hi)) (Nat.pow_lt_pow_right (by omega) hh)
  ·exact ih
theorem own1_ok (d : DesN) (h : d.rows.length ≤ 1000) : lim F 15 [.list 2 [.agg [iv (d.hk : Int), .list 1 (natsV d.rows)]]] = some (.ownT 2 [.agg [iv (d.hk : Int), .own 1 (natsV d.rows)]], []) := by
 have := own_ok [d.a] (by simp) (fun x hx => by rw [List.mem_singleton.1 hx]; simpa [DesN.a] using h)
 simpa [DesN.a, DesA.av, DesA.tv, natsV, List.map_map, Function.comp_def] using this
theorem change_ok (t : Bool) (d : DesN) (h : d.Ok) (c : ByteB × ByteB × ByteB) : lim F 79 [iv (wayOf t), .agg [iv (d.hk : Int), .list 1 (natsV d.rows)], threeV c] = some (.tuple [.agg [iv (d.hk : Int), .list 1 (natsV (chgD t d c).rows)], iv (((chgTo t d c (chgN c)).2 : Nat) : Int)], []) := by
 have hO := own1_ok d (by have := h.r60; omega)
 have h1 := h.h1;have h24 := h.h24;have r1 := h.r1;have r60 := h.r60;have hnl : (natsV d.rows).length = d.rows.length := by simp
 have c0 := c.1.2;have hN0 : Int.tdiv (c.1.1 : Int) 16 = ((c.1.1 / 16 : Nat) : Int) := rfl;have hN : Int.tmod ((c.1.1 / 16 : Nat) : Int) 4 = ((chgN c : Nat) : Int) := rfl;have hN1 : c.1.1 / 16 < 256 := by omega
 have hN4 : chgN c < 4 := Nat.mod_lt _ (by omega)
 have hx0 : (chgTo t d c 0) = (d.rows, 0) := rfl;unfold chgD threeV;dsimp only;refine lim_by (fn := a79) (k := 3) (res := [.cell 6 2 true, .tmp 7]) rfl rfl rfl (by simp -implicitDefEqProofs (maxSteps := 2000000) (disch := first | exact tt_rfl rfl | omega | (simp only [go_sem] <;> omega) | fail) only [go_sem]) ?_
 try delta mvA
 try delta opA
 try delta tA
 simp -implicitDefEqProofs (maxSteps := 2000000) (disch := first | exact tt_rfl rfl | omega | (simp only [go_sem] <;> omega) | fail) only [go_sem]
 repeat (first | apply Wp.seqA | apply Wp.skipS | apply Wp.blockS | ((first | apply Wp.regS | apply Wp.condV | apply Wp.reg | apply Wp.condW | apply fin_ret); simp -implicitDefEqProofs (maxSteps := 2000000) (disch := first | exact tt_rfl rfl | omega | (simp only [go_sem] <;> omega) | fail) only [go_sem, hO, hnl] <;> try with_reducible rfl) | apply Wp.block | apply Wp.exitS | apply Wp.retS | apply Wp.exit | apply Wp.ret | apply Wp.skip)
 apply Wp.loopF (chgN c) (fun k => ⟨[(0, iv (wayOf t)), (4, .ptr 256 0 0), (5, .ptr 320 0 0), (6, .ptr 384 0 0), (8, .ptr 512 0 0), (9, iv (((chgTo t d c k).2 : Nat) : Int)), (10, iv (k : Int))], [(256, .box [iv (d.hk : Int), .list 1 (natsV d.rows)]), (320, .box [.int .u8 (c.1.1 : Int), .int .u8 (c.2.1.1 : Int), .int .u8 (c.2.2.1 : Int)]), (384, .box [iv 0, .slice 306145 0 0]), (512, .box [iv (d.hk : Int), .inS 308193 1 d.rows.length]), (306145, .arr 1 []), (308193, .tab 2 [.agg [iv (d.hk : Int), .own 1 (natsV (chgTo t d c k).1)]])], [], 10000000⟩) (fun _ => True)
 ·simp -implicitDefEqProofs (maxSteps := 2000000) (disch := first | exact tt_rfl rfl | omega | (simp only [go_sem] <;> omega) | fail) only [go_sem, norm_eq, Ok.some]
  rfl
 ·trivial
 intro k hk _;have hcell : ∀ L : List AV, ([AV.agg [iv (d.hk : Int), .own 1 L]].flatMap AV.cells)[1]? = some (.own 1 L) := fun _ => rfl
 have hset : ∀ (L : List AV) (x : AV), tabSet 1 x [AV.agg [iv (d.hk : Int), .own 1 L]] = [AV.agg [iv (d.hk : Int), x]] := fun _ _ => rfl
 have hln : (natsV (chgTo t d c k).1).length = d.rows.length := by simp
 by_cases hk' : k < chgN c
 ·have hi : chgI d c k < d.rows.length := Nat.mod_lt _ r1
  have hh : chgH d c k < d.hk := Nat.mod_lt _ h1;have e1 : Int.tmod ((c.2.1.1 : Int) + 5 * (k : Int)) (d.rows.length : Int) = ((chgI d c k : Nat) : Int) := by
   rw [show (c.2.1.1 : Int) + 5 * (k : Int) = ((c.2.1.1 + 5 * k : Nat) : Int) by omega]; rfl
  have e2 : Int.tmod ((c.2.2.1 : Int) + 3 * (k : Int)) (d.hk : Int) = ((chgH d c k : Nat) : Int) := by
   rw [show (c.2.2.1 : Int) + 3 * (k : Int) = ((c.2.2.1 + 3 * k : Nat) : Int) by omega]; rfl
  have b1 := c.2.1.2;have b2 := c.2.2.2;have hg := nats_at (l := (chgTo t d c k).1) (i := chgI d c k) (by rw [chgTo_len]; exact hi)
  have hlt : (chgTo t d c k).1.getD (chgI d c k) 0 < 2 ^ 24 := by
   rw [rows_get (by rw [chgTo_len]; exact hi)]
   exact Nat.lt_of_lt_of_le (chgTo_lt t h c k _ (List.getElem_mem _)) (Nat.pow_le_pow_right (by omega) h24)
  have u1 : IntKind.wrap .u64 ((chgH d c k : Nat) : Int) = ((chgH d c k : Nat) : Int) := wrap_u64 (by omega) (by omega)
  have s1 := w_shr ((chgTo t d c k).1.getD (chgI d c k) 0) (chgH d c k) (by omega)
  have sb : ((chgTo t d c k).1.getD (chgI d c k) 0) >>> chgH d c k < 9223372036854775808 := by rw [Nat.shiftRight_eq_div_pow]; have := Nat.div_le_self ((chgTo t d c k).1.getD (chgI d c k) 0) (2 ^ chgH d c k); omega
  have s2 := w_and1 _ sb;have eb := bit_eq ((chgTo t d c k).1.getD (chgI d c k) 0) (chgH d c k);have p1 : 2 ^ chgH d c k ≤ 2 ^ 24 := Nat.pow_le_pow_right (by omega) (by omega)
  have s3 := w_shl1 (chgH d c k) (by omega)
  have s4 := w_xor ((chgTo t d c k).1.getD (chgI d c k) 0) (2 ^ chgH d c k) (by omega) (by omega)
  have hn2 := chgTo_le t d c k;have hstep : chgTo t d c (k + 1) = if chgB t d c (chgTo t d c k).1 k then ((chgTo t d c k).1.set (chgI d c k) ((chgTo t d c k).1.getD (chgI d c k) 0 ^^^ 2 ^ chgH d c k), (chgTo t d c k).2 + 1) else chgTo t d c k := rfl
  have hsetN : natsV ((chgTo t d c k).1.set (chgI d c k) ((chgTo t d c k).1.getD (chgI d c k) 0 ^^^ 2 ^ chgH d c k)) = (natsV (chgTo t d c k).1).set (chgI d c k) (iv (((chgTo t d c k).1.getD (chgI d c k) 0 ^^^ 2 ^ chgH d c k : Nat) : Int)) := by
   unfold natsV; rw [List.map_set]
  rw [hstep];unfold chgB;have hpl := fun n : Nat => (rfl : AV.plain1 (iv (n : Int)) = true)
  cases hb : ((chgTo t d c k).1.getD (chgI d c k) 0).testBit (chgH d c k) with
  | false =>
   rw [hb] at eb;cases t with
   | false =>
    have hw : wayOf false = 1 := rfl;rw [hw];simp only [Bool.false_xor, Bool.xor_false, if_false, Bool.false_eq_true];generalize natsV (chgTo false d c k).1 = L at *;generalize (chgTo false d c k).1.getD (chgI d c k) 0 = z at *;generalize (chgTo false d c k).2 = n at *;generalize chgI d c k = I at *;generalize chgH d c k = H at *;repeat (first | apply Wp.seqA | apply Wp.skipS | apply Wp.blockS | ((first | apply Wp.regS | apply Wp.condV | apply Wp.reg | apply Wp.condW | apply fin_ret); simp -implicitDefEqProofs (maxSteps := 2000000) (disch := first | exact tt_rfl rfl | omega | (simp only [go_sem] <;> omega) | fail) only [go_sem, hN0, hN, hk', Int.ofNat_lt, e1, e2, hcell, hset, hln, hg, u1, s1, s2, eb, s3, s4, hw, hnl, Int.toNat_natCast, show ¬ (d.rows.length : Int) = 0 by omega, show ¬ (d.hk : Int) = 0 by omega] <;> try with_reducible rfl) | apply Wp.block | apply Wp.exitS | apply Wp.retS | apply Wp.exit | apply Wp.ret | apply Wp.skip)
    apply round_next
    ·simp -implicitDefEqProofs (maxSteps := 2000000) (disch := first | exact tt_rfl rfl | omega | (simp only [go_sem] <;> omega) | fail) only [go_sem, norm_eq, Ok.some]; with_reducible rfl
    exact ⟨hk', by simp, trivial⟩
   | true =>
    have hw : wayOf true = 2 := rfl;rw [hw];simp only [Bool.false_xor, if_true];rw [hsetN];generalize natsV (chgTo true d c k).1 = L at *;generalize (chgTo true d c k).1.getD (chgI d c k) 0 ^^^ 2 ^ chgH d c k = zz at *;generalize (chgTo true d c k).1.getD (chgI d c k) 0 = z at *;generalize (chgTo true d c k).2 = n at *;generalize 2 ^ chgH d c k = pk at *;generalize chgI d c k = I at *;generalize chgH d c k = H at *;repeat (first | apply Wp.seqA | apply Wp.skipS | apply Wp.blockS | ((first | apply Wp.regS | apply Wp.condV | apply Wp.reg | apply Wp.condW | apply fin_ret); simp -implicitDefEqProofs (maxSteps := 2000000) (disch := first | exact tt_rfl rfl | omega | (simp only [go_sem] <;> omega) | fail) only [go_sem, hN0, hN, hk', Int.ofNat_lt, e1, e2, hcell, hset, hln, hg, u1, s1, s2, eb, s3, s4, hw, hnl, hi, Int.toNat_natCast, show ¬ (d.rows.length : Int) = 0 by omega, show ¬ (d.hk : Int) = 0 by omega] <;> try with_reducible rfl) | apply Wp.block | apply Wp.exitS | apply Wp.retS | apply Wp.exit | apply Wp.ret | apply Wp.skip)
    apply round_next
    ·simp -implicitDefEqProofs (maxSteps := 2000000) (disch := first | exact tt_rfl rfl | omega | (simp only [go_sem] <;> omega) | fail) only [go_sem, norm_eq, Ok.some]; with_reducible rfl
    exact ⟨hk', by simp, trivial⟩
  | true =>
   rw [hb] at eb;cases t with
   | true =>
    have hw : wayOf true = 2 := rfl;rw [hw];simp only [Bool.xor_self, if_false, Bool.false_eq_true];generalize natsV (chgTo true d c k).1 = L at *;generalize (chgTo true d c k).1.getD (chgI d c k) 0 = z at *;generalize (chgTo true d c k).2 = n at *;generalize chgI d c k = I at *;generalize chgH d c k = H at *;repeat (first | apply Wp.seqA | apply Wp.skipS | apply Wp.blockS | ((first | apply Wp.regS | apply Wp.condV | apply Wp.reg | apply Wp.condW | apply fin_ret); simp -implicitDefEqProofs (maxSteps := 2000000) (disch := first | exact tt_rfl rfl | omega | (simp only [go_sem] <;> omega) | fail) only [go_sem, hN0, hN, hk', Int.ofNat_lt, e1, e2, hcell, hset, hln, hg, u1, s1, s2, eb, s3, s4, hw, hnl, Int.toNat_natCast, show ¬ (d.rows.length : Int) = 0 by omega, show ¬ (d.hk : Int) = 0 by omega] <;> try with_reducible rfl) | apply Wp.block | apply Wp.exitS | apply Wp.retS | apply Wp.exit | apply Wp.ret | apply Wp.skip)
    apply round_next
    ·simp -implicitDefEqProofs (maxSteps := 2000000) (disch := first | exact tt_rfl rfl | omega | (simp only [go_sem] <;> omega) | fail) only [go_sem, norm_eq, Ok.some]; with_reducible rfl
    exact ⟨hk', by simp, trivial⟩
   | false =>
    have hw : wayOf false = 1 := rfl;rw [hw];simp only [Bool.xor_false, if_true];rw [hsetN];generalize natsV (chgTo false d c k).1 = L at *;generalize (chgTo false d c k).1.getD (chgI d c k) 0 ^^^ 2 ^ chgH d c k = zz at *;generalize (chgTo false d c k).1.getD (chgI d c k) 0 = z at *;generalize (chgTo false d c k).2 = n at *;generalize 2 ^ chgH d c k = pk at *;generalize chgI d c k = I at *;generalize chgH d c k = H at *;repeat (first | apply Wp.seqA | apply Wp.skipS | apply Wp.blockS | ((first | apply Wp.regS | apply Wp.condV | apply Wp.reg | apply Wp.condW | apply fin_ret); simp -implicitDefEqProofs (maxSteps := 2000000) (disch := first | exact tt_rfl rfl | omega | (simp only [go_sem] <;> omega) | fail) only [go_sem, hN0, hN, hk', Int.ofNat_lt, e1, e2, hcell, hset, hln, hg, u1, s1, s2, eb, s3, s4, hw, hnl, hi, Int.toNat_natCast, show ¬ (d.rows.length : Int) = 0 by omega, show ¬ (d.hk : Int) = 0 by omega] <;> try with_reducible rfl) | apply Wp.block | apply Wp.exitS | apply Wp.retS | apply Wp.exit | apply Wp.ret | apply Wp.skip)
    apply round_next
    ·simp -implicitDefEqProofs (maxSteps := 2000000) (disch := first | exact tt_rfl rfl | omega | (simp only [go_sem] <;> omega) | fail) only [go_sem, norm_eq, Ok.some]; with_reducible rfl
    exact ⟨hk', by simp, trivial⟩
 ·obtain rfl : k = chgN c := by omega
  have P1 := nats_plain (chgTo t d c (chgN c)).1;have t1 : (natsV (chgTo t d c (chgN c)).1).take d.rows.length = natsV (chgTo t d c (chgN c)).1 := List.take_of_length_le (by omega)
  have hnn : ¬ ((chgN c : Nat) : Int) < ((chgN c : Nat) : Int) := by omega
  generalize natsV (chgTo t d c (chgN c)).1 = L at *;repeat (first | apply Wp.seqA | apply Wp.skipS | apply Wp.blockS | ((first | apply Wp.regS | apply Wp.condV | apply Wp.reg | apply Wp.condW | apply fin_ret); simp -implicitDefEqProofs (maxSteps := 2000000) (disch := first | exact tt_rfl rfl | omega | (simp only [go_sem] <;> omega) | fail) only [go_sem, hN0, hN, hnn, hcell, hln, t1, P1, hnl] <;> try with_reducible rfl) | apply Wp.block | apply Wp.exitS | apply Wp.retS | apply Wp.exit | apply Wp.ret | apply Wp.skip)
end Go.Abs
