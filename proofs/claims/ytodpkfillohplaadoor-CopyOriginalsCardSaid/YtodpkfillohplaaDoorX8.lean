/-
 Chapter 12: the document's original with the fewest changes. No condition beyond those that each theorem names.
-/
import Derived.Test.YtodpkfillohplaaDoorX7
set_option linter.all false
namespace Go.Abs
set_option maxRecDepth 10000
set_option maxHeartbeats 4000000

def holeB (d : DesN) (i q : Nat) : Bool := (d.rows.getD i 0).testBit q
def someTo (l : List DesN) (i q k : Nat) : Bool := (l.take k).any fun d => holeB d i q
def allTo (l : List DesN) (i q k : Nat) : Bool := (l.take k).all fun d => holeB d i q
theorem someTo_succ {l : List DesN} {i q k : Nat} (h : k < l.length) : someTo l i q (k + 1) = (someTo l i q k || holeB l[k] i q) := by
 unfold someTo
 rw [List.take_succ, List.getElem?_eq_getElem h, List.any_append]; simp
theorem allTo_succ {l : List DesN} {i q k : Nat} (h : k < l.length) : allTo l i q (k + 1) = (allTo l i q k && holeB l[k] i q) := by
 unfold allTo
 rw [List.take_succ, List.getElem?_eq_getElem h, List.all_append]; simp
def condT (t : Bool) (l : List DesN) (i q : Nat) : Bool := if t then allTo l i q l.length else someTo l i q l.length
theorem rowTo_add (g : Nat → Bool) (n : Nat) : rowTo g (n + 1) = rowTo g n + (if g n then 2 ^ n else 0) := by
 have hl := rowTo_lt g n
 show (rowTo g n ||| (if g n then 2 ^ n else 0)) = _
 cases g n
 ·simp
 ·have := Nat.two_pow_add_eq_or_of_lt hl 1
  rw [Nat.mul_one] at this
  simp only [if_true]
  rw [Nat.or_comm, ← this, Nat.add_comm]
/-- the rows, by the document -/
def firstR (t : Bool) (hk n : Nat) (l : List DesN) : List Nat := (List.range n).map fun i => rowTo (condT t l i) hk
theorem first_eq {l : List DesN} {hk n : Nat} (h : SetsOk l hk n) (t : Bool) : (firstN t hk n l).rows = firstR t hk n l := by
 have hrow := setsN_row (t := t) h
 unfold firstN firstR turnL joinN
 dsimp only
 rw [List.map_map]
 refine List.map_congr_left fun i hi => ?_
 have hi := List.mem_range.1 hi
 have hj := joinAt_lt hrow hi
 show turnR t hk (joinAt (setsN t hk l) i) = _
 refine row_eq (turnR_lt hj) (rowTo_lt _ _) fun q hq => ?_
 rw [turnR_bit hq, rowTo_bit, decide_eq_true hq, Bool.true_and]
 unfold joinAt
 rw [orAll_bit]
 unfold setsN condT
 rw [List.map_map, List.any_map]
 have e : ∀ d ∈ l, (atR (turnL t hk d.rows) i).testBit q = (holeB d i q ^^ t) := fun d hd => by
  unfold atR holeB
  rw [turnL_at _ _ _ (by rw [h.rows d hd]; exact hi), turnR_bit hq]
 have e2 : (l.any ((fun r => r.testBit q) ∘ (fun r => atR r i) ∘ fun d => turnL t hk d.rows)) = l.any fun d => (holeB d i q ^^ t) := by
  rw [Bool.eq_iff_iff, List.any_eq_true, List.any_eq_true]
  constructor
  ·rintro ⟨d, hd, hx⟩
   exact ⟨d, hd, by rw [← e d hd]; exact hx⟩
  ·rintro ⟨d, hd, hx⟩
   refine ⟨d, hd, ?_⟩
   show (atR (turnL t hk d.rows) i).testBit q = true
   rw [e d hd]; exact hx
 rw [e2]
 unfold someTo allTo
 rw [List.take_length]
 cases t
 ·simp
 ·simp only [Bool.xor_true, if_true]
  rw [List.all_eq_not_any_not]
theorem refFirst_ok {l : List DesN} {hk n : Nat} (h : SetsOk l hk n) (t : Bool) : lim F 23 [iv (wayOf t), .list 2 (l.map setV)] = some (.agg [iv (hk : Int), .own 1 (natsV (firstN t hk n l).rows)], []) := by
 obtain ⟨⟨k1, k2⟩, k3, k4⟩ := h.k1
 have hl1 := h.l1
 have hl10 := h.l10
 rw [first_eq h]
 have hln : (l.map setV).length = l.length := by simp
 have hg : ∀ k (hk' : k < l.length), (l.map setV)[k]? = some (.agg [iv (hk : Int), .list 1 (natsV l[k].rows)]) := fun k hk' => by
  rw [setN_at hk', h.hk _ (List.getElem_mem _)]
 have hg0 : (l.map setV)[0]? = some (.agg [iv (hk : Int), .list 1 (natsV l[0].rows)]) := hg 0 (by omega)
 have hn0 : (natsV l[0].rows).length = n := by simp [h.rows _ (List.getElem_mem _)]
 have hH : ∀ k (hk' : k < l.length) (i q : Nat), i < n → q ≤ 24 → lim F 64 [.agg [iv (hk : Int), .list 1 (natsV l[k].rows)], iv (i : Int), iv (q : Int)] = some (.bool (holeB l[k] i q), []) := fun k hk' i q hi hq => by
  have := Hole_ok l[k] (h.ok _ (List.getElem_mem _)) i q (by rw [h.rows _ (List.getElem_mem _)]; exact hi) hq
  unfold setV at this
  rw [h.hk _ (List.getElem_mem _)] at this
  exact this
 have hS := fun i q k (hk' : k < l.length) => someTo_succ (i := i) (q := q) hk'
 have hA := fun i q k (hk' : k < l.length) => allTo_succ (i := i) (q := q) hk'
 have hst : ∀ i, natsV (firstR t hk (i + 1) l) = natsV (firstR t hk i l) ++ [iv ((rowTo (condT t l i) hk : Nat) : Int)] := fun i => by
  unfold firstR natsV; rw [List.range_succ, List.map_append, List.map_append]; rfl
 have hfl : ∀ i, (natsV (firstR t hk i l)).length = i := fun i => by simp [firstR]
 have hpl := nats_plain (firstR t hk n l)
 have hp24 : 2 ^ hk ≤ 2 ^ 24 := Nat.pow_le_pow_right (by omega) k2
 generalize natsV l[0].rows = r0 at *
 generalize l.map setV = es at *
 refine lim_by (fn := a23) (k := 2) (res := [.cell 4 2 true]) rfl rfl rfl (by simp -implicitDefEqProofs (maxSteps := 2000000) (disch := first | exact tt_rfl rfl | omega | (simp only [go_sem] <;> omega) | fail) only [go_sem]) ?_
 try delta mvA
 try delta opA
 try delta tA
 simp -implicitDefEqProofs (maxSteps := 2000000) (disch := first | exact tt_rfl rfl | omega | (simp only [go_sem] <;> omega) | fail) only [go_sem]
 repeat (first | apply Wp.seqA | apply Wp.skipS | apply Wp.blockS | ((first | apply Wp.regS | apply Wp.condV | apply Wp.reg | apply Wp.condW | apply fin_ret); simp -implicitDefEqProofs (maxSteps := 2000000) (disch := first | exact tt_rfl rfl | omega | (simp only [go_sem] <;> omega) | fail) only [go_sem, hg0] <;> try with_reducible rfl) | apply Wp.block | apply Wp.exitS | apply Wp.retS | apply Wp.exit | apply Wp.ret | apply Wp.skip)
 apply Wp.loopF n (fun i => ⟨[(0, iv (wayOf t)), (1, .list 2 es), (4, .ptr 256 0 0), (5, .ptr 320 0 0), (6, iv (i : Int))], [(256, .box [iv 0, .slice 304097 0 0]), (320, .box [iv (hk : Int), .slice 305121 0 i]), (304097, .arr 1 []), (305121, .arr 1 (natsV (firstR t hk i l)))], [], 10000000⟩) (fun _ => True)
 ·simp -implicitDefEqProofs (maxSteps := 2000000) (disch := first | exact tt_rfl rfl | omega | (simp only [go_sem] <;> omega) | fail) only [go_sem, norm_eq, Ok.some]
  rfl
 ·trivial
 intro i hi _
 by_cases h' : i < n
 ·have a1 := hst i
  have a2 := hfl i
  have a3 := fun k hk' q hq => hH k hk' i q h' hq
  have a4 := fun q k hk' => hS i q k hk'
  have a5 := fun q k hk' => hA i q k hk'
  rw [a1]
  generalize natsV (firstR t hk i l) = L at *
  repeat (first | apply Wp.seqA | apply Wp.skipS | apply Wp.blockS | ((first | apply Wp.regS | apply Wp.condV | apply Wp.reg | apply Wp.condW | apply fin_ret); simp -implicitDefEqProofs (maxSteps := 2000000) (disch := first | exact tt_rfl rfl | omega | (simp only [go_sem] <;> omega) | fail) only [go_sem, h', Int.ofNat_lt, hg0, hn0] <;> try with_reducible rfl) | apply Wp.block | apply Wp.exitS | apply Wp.retS | apply Wp.exit | apply Wp.ret | apply Wp.skip)
  apply Wp.loopF hk (fun q => ⟨[(0, iv (wayOf t)), (1, .list 2 es), (4, .ptr 256 0 0), (5, .ptr 320 0 0), (6, iv (i : Int)), (7, iv ((rowTo (condT t l i) q : Nat) : Int)), (8, iv (q : Int))], [(256, .box [iv 0, .slice 304097 0 0]), (320, .box [iv (hk : Int), .slice 305121 0 i]), (304097, .arr 1 []), (305121, .arr 1 L)], [], 10000000⟩) (fun _ => True)
  ·simp -implicitDefEqProofs (maxSteps := 2000000) (disch := first | exact tt_rfl rfl | omega | (simp only [go_sem] <;> omega) | fail) only [go_sem, norm_eq, Ok.some]
   rfl
  ·trivial
  intro q hq _
  by_cases hq' : q < hk
  ·have b1 := rowTo_add (condT t l i) q
   have b2 := rowTo_lt (condT t l i) q
   have b3 : 2 ^ (q + 1) ≤ 2 ^ hk := Nat.pow_le_pow_right (by omega) (by omega)
   have b4 : 2 ^ (q + 1) = 2 * 2 ^ q := by rw [Nat.pow_succ]; omega
   have s1 := w_shl1 q (by omega)
   have u1 : IntKind.wrap .u64 (q : Int) = q := wrap_u64 (by omega) (by omega)
   have c3 := fun k hk' => a3 k hk' q (by omega)
   have c4 := fun k hk' => a4 q k hk'
   have c5 := fun k hk' => a5 q k hk'
   have hcond : condT t l i q = if t then allTo l i q l.length else someTo l i q l.length := rfl
   rw [b1, hcond]
   generalize rowTo (condT t l i) q = rt at *
   repeat (first | apply Wp.seqA | apply Wp.skipS | apply Wp.blockS | ((first | apply Wp.regS | apply Wp.condV | apply Wp.reg | apply Wp.condW | apply fin_ret); simp -implicitDefEqProofs (maxSteps := 2000000) (disch := first | exact tt_rfl rfl | omega | (simp only [go_sem] <;> omega) | fail) only [go_sem, hq', Int.ofNat_lt] <;> try with_reducible rfl) | apply Wp.block | apply Wp.exitS | apply Wp.retS | apply Wp.exit | apply Wp.ret | apply Wp.skip)
   apply Wp.loopF l.length (fun k => ⟨[(0, iv (wayOf t)), (1, .list 2 es), (4, .ptr 256 0 0), (5, .ptr 320 0 0), (6, iv (i : Int)), (7, iv (rt : Int)), (8, iv (q : Int)), (9, .bool (someTo l i q k)), (10, .bool (allTo l i q k)), (11, iv (k : Int))], [(256, .box [iv 0, .slice 304097 0 0]), (320, .box [iv (hk : Int), .slice 305121 0 i]), (304097, .arr 1 []), (305121, .arr 1 L)], [], 10000000⟩) (fun _ => True)
   ·simp -implicitDefEqProofs (maxSteps := 2000000) (disch := first | exact tt_rfl rfl | omega | (simp only [go_sem] <;> omega) | fail) only [go_sem, norm_eq, Ok.some]
    rfl
   ·trivial
   intro k hk' _
   by_cases hk2 : k < l.length
   ·have d1 := c3 k hk2
    have d2 := hg k hk2
    rw [c4 k hk2, c5 k hk2]
    generalize holeB l[k] i q = hb at *
    generalize natsV l[k].rows = rk at *
    generalize someTo l i q k = sm at *
    generalize allTo l i q k = al at *
    cases sm
    ·cases al
     ·repeat (first | apply Wp.seqA | apply Wp.skipS | apply Wp.blockS | ((first | apply Wp.regS | apply Wp.condV | apply Wp.reg | apply Wp.condW | apply fin_ret); simp -implicitDefEqProofs (maxSteps := 2000000) (disch := first | exact tt_rfl rfl | omega | (simp only [go_sem] <;> omega) | fail) only [go_sem, hk2, Int.ofNat_lt, hln, d1, d2] <;> try with_reducible rfl) | apply Wp.block | apply Wp.exitS | apply Wp.retS | apply Wp.exit | apply Wp.ret | apply Wp.skip)
      apply round_next
      ·simp -implicitDefEqProofs (maxSteps := 2000000) (disch := first | exact tt_rfl rfl | omega | (simp only [go_sem] <;> omega) | fail) only [go_sem, norm_eq, Ok.some]; with_reducible rfl
      exact ⟨hk2, by simp, trivial⟩
     ·repeat (first | apply Wp.seqA | apply Wp.skipS | apply Wp.blockS | ((first | apply Wp.regS | apply Wp.condV | apply Wp.reg | apply Wp.condW | apply fin_ret); simp -implicitDefEqProofs (maxSteps := 2000000) (disch := first | exact tt_rfl rfl | omega | (simp only [go_sem] <;> omega) | fail) only [go_sem, hk2, Int.ofNat_lt, hln, d1, d2] <;> try with_reducible rfl) | apply Wp.block | apply Wp.exitS | apply Wp.retS | apply Wp.exit | apply Wp.ret | apply Wp.skip)
      apply round_next
      ·simp -implicitDefEqProofs (maxSteps := 2000000) (disch := first | exact tt_rfl rfl | omega | (simp only [go_sem] <;> omega) | fail) only [go_sem, norm_eq, Ok.some]; with_reducible rfl
      exact ⟨hk2, by simp, trivial⟩
    ·cases al
     ·repeat (first | apply Wp.seqA | apply Wp.skipS | apply Wp.blockS | ((first | apply Wp.regS | apply Wp.condV | apply Wp.reg | apply Wp.condW | apply fin_ret); simp -implicitDefEqProofs (maxSteps := 2000000) (disch := first | exact tt_rfl rfl | omega | (simp only [go_sem] <;> omega) | fail) only [go_sem, hk2, Int.ofNat_lt, hln, d1, d2] <;> try with_reducible rfl) | apply Wp.block | apply Wp.exitS | apply Wp.retS | apply Wp.exit | apply Wp.ret | apply Wp.skip)
      apply round_next
      ·simp -implicitDefEqProofs (maxSteps := 2000000) (disch := first | exact tt_rfl rfl | omega | (simp only [go_sem] <;> omega) | fail) only [go_sem, norm_eq, Ok.some]; with_reducible rfl
      exact ⟨hk2, by simp, trivial⟩
     ·repeat (first | apply Wp.seqA | apply Wp.skipS | apply Wp.blockS | ((first | apply Wp.regS | apply Wp.condV | apply Wp.reg | apply Wp.condW | apply fin_ret); simp -implicitDefEqProofs (maxSteps := 2000000) (disch := first | exact tt_rfl rfl | omega | (simp only [go_sem] <;> omega) | fail) only [go_sem, hk2, Int.ofNat_lt, hln, d1, d2] <;> try with_reducible rfl) | apply Wp.block | apply Wp.exitS | apply Wp.retS | apply Wp.exit | apply Wp.ret | apply Wp.skip)
      apply round_next
      ·simp -implicitDefEqProofs (maxSteps := 2000000) (disch := first | exact tt_rfl rfl | omega | (simp only [go_sem] <;> omega) | fail) only [go_sem, norm_eq, Ok.some]; with_reducible rfl
      exact ⟨hk2, by simp, trivial⟩
   ·obtain rfl : k = l.length := by omega
    have es2 : (rt : Int) + ((2 ^ q : Nat) : Int) = ((rt + 2 ^ q : Nat) : Int) := by omega
    generalize someTo l i q l.length = sm at *
    generalize allTo l i q l.length = al at *
    generalize 2 ^ q = pw at *
    cases t
    ·cases sm
     ·repeat (first | apply Wp.seqA | apply Wp.skipS | apply Wp.blockS | ((first | apply Wp.regS | apply Wp.condV | apply Wp.reg | apply Wp.condW | apply fin_ret); simp -implicitDefEqProofs (maxSteps := 2000000) (disch := first | exact tt_rfl rfl | omega | (simp only [go_sem] <;> omega) | fail) only [go_sem, hln, Int.lt_irrefl, s1, u1, es2, wayOf, ite_true, ite_false, Bool.false_eq_true, Int.toNat_natCast] <;> try with_reducible rfl) | apply Wp.block | apply Wp.exitS | apply Wp.retS | apply Wp.exit | apply Wp.ret | apply Wp.skip)
      apply round_next
      ·simp -implicitDefEqProofs (maxSteps := 2000000) (disch := first | exact tt_rfl rfl | omega | (simp only [go_sem] <;> omega) | fail) only [go_sem, norm_eq, Ok.some]; with_reducible rfl
      exact ⟨hq', by simp [wayOf], trivial⟩
     ·repeat (first | apply Wp.seqA | apply Wp.skipS | apply Wp.blockS | ((first | apply Wp.regS | apply Wp.condV | apply Wp.reg | apply Wp.condW | apply fin_ret); simp -implicitDefEqProofs (maxSteps := 2000000) (disch := first | exact tt_rfl rfl | omega | (simp only [go_sem] <;> omega) | fail) only [go_sem, hln, Int.lt_irrefl, s1, u1, es2, wayOf, ite_true, ite_false, Bool.false_eq_true, Int.toNat_natCast] <;> try with_reducible rfl) | apply Wp.block | apply Wp.exitS | apply Wp.retS | apply Wp.exit | apply Wp.ret | apply Wp.skip)
      apply round_next
      ·simp -implicitDefEqProofs (maxSteps := 2000000) (disch := first | exact tt_rfl rfl | omega | (simp only [go_sem] <;> omega) | fail) only [go_sem, norm_eq, Ok.some]; with_reducible rfl
      exact ⟨hq', by simp [wayOf], trivial⟩
    ·cases al
     ·repeat (first | apply Wp.seqA | apply Wp.skipS | apply Wp.blockS | ((first | apply Wp.regS | apply Wp.condV | apply Wp.reg | apply Wp.condW | apply fin_ret); simp -implicitDefEqProofs (maxSteps := 2000000) (disch := first | exact tt_rfl rfl | omega | (simp only [go_sem] <;> omega) | fail) only [go_sem, hln, Int.lt_irrefl, s1, u1, es2, wayOf, ite_true, ite_false, Bool.false_eq_true, Int.toNat_natCast] <;> try with_reducible rfl) | apply Wp.block | apply Wp.exitS | apply Wp.retS | apply Wp.exit | apply Wp.ret | apply Wp.skip)
      apply round_next
      ·simp -implicitDefEqProofs (maxSteps := 2000000) (disch := first | exact tt_rfl rfl | omega | (simp only [go_sem] <;> omega) | fail) only [go_sem, norm_eq, Ok.some]; with_reducible rfl
      exact ⟨hq', by simp [wayOf], trivial⟩
     ·repeat (first | apply Wp.seqA | apply Wp.skipS | apply Wp.blockS | ((first | apply Wp.regS | apply Wp.condV | apply Wp.reg | apply Wp.condW | apply fin_ret); simp -implicitDefEqProofs (maxSteps := 2000000) (disch := first | exact tt_rfl rfl | omega | (simp only [go_sem] <;> omega) | fail) only [go_sem, hln, Int.lt_irrefl, s1, u1, es2, wayOf, ite_true, ite_false, Bool.false_eq_true, Int.toNat_natCast] <;> try with_reducible rfl) | apply Wp.block | apply Wp.exitS | apply Wp.retS | apply Wp.exit | apply Wp.ret | apply Wp.skip)
      apply round_next
      ·simp -implicitDefEqProofs (maxSteps := 2000000) (disch := first | exact tt_rfl rfl | omega | (simp only [go_sem] <;> omega) | fail) only [go_sem, norm_eq, Ok.some]; with_reducible rfl
      exact ⟨hq', by simp [wayOf], trivial⟩
  ·obtain rfl : q = hk := by omega
   generalize rowTo (condT t l i) q = rt at *
   repeat (first | apply Wp.seqA | apply Wp.skipS | apply Wp.blockS | ((first | apply Wp.regS | apply Wp.condV | apply Wp.reg | apply Wp.condW | apply fin_ret); simp -implicitDefEqProofs (maxSteps := 2000000) (disch := first | exact tt_rfl rfl | omega | (simp only [go_sem] <;> omega) | fail) only [go_sem, Int.lt_irrefl, a2] <;> try with_reducible rfl) | apply Wp.block | apply Wp.exitS | apply Wp.retS | apply Wp.exit | apply Wp.ret | apply Wp.skip)
   apply round_next
   ·simp -implicitDefEqProofs (maxSteps := 2000000) (disch := first | exact tt_rfl rfl | omega | (simp only [go_sem] <;> omega) | fail) only [go_sem, norm_eq, Ok.some]; with_reducible rfl
   exact ⟨h', by simp, trivial⟩
 ·obtain rfl : i = n := by omega
  have a2 := hfl i
  have htk : (natsV (firstR t hk i l)).take i = natsV (firstR t hk i l) := List.take_of_length_le (by omega)
  generalize natsV (firstR t hk i l) = L at *
  repeat (first | apply Wp.seqA | apply Wp.skipS | apply Wp.blockS | ((first | apply Wp.regS | apply Wp.condV | apply Wp.reg | apply Wp.condW | apply fin_ret); simp -implicitDefEqProofs (maxSteps := 2000000) (disch := first | exact tt_rfl rfl | omega | (simp only [go_sem] <;> omega) | fail) only [go_sem, Int.lt_irrefl, hg0, hn0, a2, hpl, htk] <;> try with_reducible rfl) | apply Wp.block | apply Wp.exitS | apply Wp.retS | apply Wp.exit | apply Wp.ret | apply Wp.skip)
end Go.Abs
