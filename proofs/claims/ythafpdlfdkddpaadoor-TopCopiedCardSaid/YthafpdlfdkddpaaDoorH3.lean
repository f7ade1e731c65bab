/-
 Several texts: H2, H3.
-/
import Derived.Test.YthafpdlfdkddpaaDoorU1
import Derived.Test.YthafpdlfdkddpaaDoorH1
import Derived.Test.YthafpdlfdkddpaaDoorEvI
set_option linter.all false
namespace Go.Abs
set_option maxRecDepth 10000
set_option maxHeartbeats 4000000
open Cp (SetsOk subN subN_bit subN_lt setV)

abbrev ByteB := Fin 256
def bytesV (l : List ByteB) : List AV := l.map fun r => .int .u8 (r.1 : Int)
@[go_sem] theorem bytes_plain (l : List ByteB) : (bytesV l).all AV.plain = true := by
 simp [bytesV, AV.plain, AV.plain1]
@[simp] theorem bytes_len (l : List ByteB) : (bytesV l).length = l.length := by simp [bytesV]
def bsrc (l : List ByteB) (i : Nat) : Nat := (l[i]?.map fun r => r.1).getD 0
theorem bsrc_lt (l : List ByteB) (i : Nat) : bsrc l i < 256 := by
 unfold bsrc
 cases h : l[i]? with
 | none => simp
 | some r => exact r.2
theorem bytes_at {l : List ByteB} {i : Nat} (h : i < l.length) : (bytesV l)[i]? = some (.int .u8 (bsrc l i : Int)) := by
 unfold bsrc bytesV
 rw [List.getElem?_map, List.getElem?_eq_getElem h]; rfl
/-- the rows, so many bytes on -/
def lostTo (d : DesN) (b : List ByteB) : Nat → List Nat
 | 0 => d.rows
 | i + 1 => (lostTo d b i).set (bsrc b i / 8 % d.rows.length) (subN ((lostTo d b i).getD (bsrc b i / 8 % d.rows.length) 0) (2 ^ (bsrc b i % d.hk)))
def lostD (d : DesN) (b : List ByteB) : DesN := ⟨d.hk, lostTo d b (min b.length 6)⟩
@[simp] theorem lostTo_len (d : DesN) (b : List ByteB) : ∀ i, (lostTo d b i).length = d.rows.length
 | 0 => rfl
 | i + 1 => by simp [lostTo, lostTo_len d b i]
theorem lostTo_bit (d : DesN) (b : List ByteB) : ∀ i q j, ((lostTo d b i).getD q 0).testBit j = true → (d.rows.getD q 0).testBit j = true
 | 0, _, _, h => h
 | i + 1, q, j, h => by
  rw [lostTo, List.getD_eq_getElem?_getD, List.getElem?_set] at h
  split at h
  ·split at h
   ·rename_i e _
    subst e
    simp only [Option.getD_some] at h
    rw [subN_bit] at h
    exact lostTo_bit d b i _ j (by simp only [Bool.and_eq_true] at h; exact h.1)
   ·simp at h
  ·exact lostTo_bit d b i q j (by rw [List.getD_eq_getElem?_getD]; exact h)
theorem sub_lt_of {a b n : Nat} (h : ∀ j, a.testBit j = true → b.testBit j = true) (hb : b < 2 ^ n) : a < 2 ^ n := by
 apply Nat.lt_pow_two_of_testBit
 intro j hj
 cases e : a.testBit j with
 | false => rfl
 | true =>
  have := h j e
  rw [Nat.testBit_lt_two_pow (Nat.lt_of_lt_of_le hb (Nat.pow_le_pow_right (by omega) hj))] at this
  cases this
theorem lost_is {d : DesN} (h : d.Ok) (b : List ByteB) : (lostD d b).Ok where
 h1 := h.h1
 h24 := h.h24
 r1 := by simp [lostD]; exact h.r1
 r60 := by simp [lostD]; exact h.r60
 lt := fun r hr => by
  obtain ⟨q, hq, rfl⟩ := List.getElem_of_mem hr
  have hq2 : q < d.rows.length := by simpa [lostD] using hq
  refine sub_lt_of (b := d.rows.getD q 0) (fun j hj => lostTo_bit d b _ q j (by rw [Cp.rows_get (by simpa using hq2)]; exact hj)) ?_
  rw [Cp.rows_get hq2]
  exact h.lt _ (List.getElem_mem hq2)

theorem copy_ok (d : DesN) (h : d.rows.length ≤ 1000) : lim F 9 [.agg [iv (d.hk : Int), .list 1 (natsV d.rows)]] = some (.agg [iv (d.hk : Int), .own 1 (natsV d.rows)], []) := by
 have hln : (natsV d.rows).length = d.rows.length := by simp
 have htk : (natsV d.rows).take d.rows.length = natsV d.rows := List.take_of_length_le (by simp)
 generalize natsV d.rows = ps at *
 refine lim_by (fn := a9) (k := 1) (res := [.cell 2 2 true]) rfl rfl rfl (by simp -implicitDefEqProofs (maxSteps := 2000000) (disch := first | exact tt_rfl rfl | omega | (simp only [go_sem] <;> omega) | fail) only [go_sem]) ?_
 try delta mvA
 try delta opA
 try delta tA
 simp -implicitDefEqProofs (maxSteps := 2000000) (disch := first | exact tt_rfl rfl | omega | (simp only [go_sem] <;> omega) | fail) only [go_sem]
 repeat (first | apply Wp.seqA | apply Wp.skipS | apply Wp.blockS | ((first | apply Wp.regS | apply Wp.condV | apply Wp.reg | apply Wp.condW | apply fin_ret); simp -implicitDefEqProofs (maxSteps := 2000000) (disch := first | exact tt_rfl rfl | omega | (simp only [go_sem] <;> omega) | fail) only [go_sem, hln, htk] <;> try with_reducible rfl) | apply Wp.block | apply Wp.exitS | apply Wp.retS | apply Wp.exit | apply Wp.ret | apply Wp.skip)
theorem lost_top (d : DesN) (h : d.Ok) (b : List ByteB) : lim F 17 [iv 1, .agg [iv (d.hk : Int), .list 1 (natsV d.rows)], .list 1 (bytesV b)] = some (.agg [iv (d.hk : Int), .own 1 (natsV (lostD d b).rows)], []) := by
 have h1 := h.h1
 have h24 := h.h24
 have r1 := h.r1
 have r60 := h.r60
 have hC := copy_ok d (by omega)
 have hbl := bytes_len b
 have hnl : (natsV d.rows).length = d.rows.length := by simp
 have hat := fun i (hi : i < b.length) => bytes_at hi
 have hlt := bsrc_lt b
 have hz : natsV d.rows = natsV (lostTo d b 0) := rfl
 have hln : ∀ i, (natsV (lostTo d b i)).length = d.rows.length := fun i => by simp
 have hget : ∀ i q, q < d.rows.length → (natsV (lostTo d b i))[q]? = some (iv (((lostTo d b i).getD q 0 : Nat) : Int)) := fun i q hq => nats_at (by simpa using hq)
 have hset : ∀ i, natsV (lostTo d b (i + 1)) = (natsV (lostTo d b i)).set (bsrc b i / 8 % d.rows.length) (iv ((subN ((lostTo d b i).getD (bsrc b i / 8 % d.rows.length) 0) (2 ^ (bsrc b i % d.hk)) : Nat) : Int)) := fun i => by
  rw [lostTo]; unfold natsV; rw [List.map_set]
 have h63 : ∀ i q, (lostTo d b i).getD q 0 < 2 ^ 24 := fun i q => by
  refine sub_lt_of (b := d.rows.getD q 0) (fun j hj => lostTo_bit d b i q j hj) ?_
  by_cases hq : q < d.rows.length
  ·exact h.at24 hq
  ·rw [List.getD_eq_getElem?_getD, List.getElem?_eq_none (by omega)]; exact Nat.pow_pos (by omega)

 unfold lostD
 dsimp only
 generalize bytesV b = bs at *
 refine lim_by (fn := a17) (k := 3) (res := [.cell 6 2 true]) rfl rfl rfl (by simp -implicitDefEqProofs (maxSteps := 2000000) (disch := first | exact tt_rfl rfl | omega | (simp only [go_sem] <;> omega) | fail) only [go_sem]) ?_
 try delta mvA
 try delta opA
 try delta tA
 simp -implicitDefEqProofs (maxSteps := 2000000) (disch := first | exact tt_rfl rfl | omega | (simp only [go_sem] <;> omega) | fail) only [go_sem]
 repeat (first | apply Wp.seqA | apply Wp.skipS | apply Wp.blockS | ((first | apply Wp.regS | apply Wp.condV | apply Wp.reg | apply Wp.condW | apply fin_ret); simp -implicitDefEqProofs (maxSteps := 2000000) (disch := first | exact tt_rfl rfl | omega | (simp only [go_sem] <;> omega) | fail) only [go_sem, hC, hbl, hnl] <;> try with_reducible rfl) | apply Wp.block | apply Wp.exitS | apply Wp.retS | apply Wp.exit | apply Wp.ret | apply Wp.skip)
 generalize hN : min b.length 6 = N at *
 apply Wp.loopF N (fun i => ⟨[(0, iv 1), (2, .list 1 bs), (4, .ptr 256 0 0), (6, .ptr 384 0 0), (7, .ptr 448 0 0), (8, iv (i : Int))], [(256, .box [iv (d.hk : Int), .list 1 (natsV d.rows)]), (384, .box [iv 0, .slice 306145 0 0]), (448, .box [iv (d.hk : Int), .slice 307169 0 d.rows.length]), (306145, .arr 1 []), (307169, .arr 1 (natsV (lostTo d b i)))], [], 10000000⟩) (fun _ => True)
 ·simp -implicitDefEqProofs (maxSteps := 2000000) (disch := first | exact tt_rfl rfl | omega | (simp only [go_sem] <;> omega) | fail) only [go_sem, norm_eq, Ok.some]
  rfl
 ·trivial
 intro i hi _
 by_cases h' : i < N
 ·have hib : i < b.length := by omega
  have hi6 : (i : Int) < 6 := by omega
  have a1 := hat i hib
  have x1 := hlt i
  have hq := Nat.mod_lt (bsrc b i / 8) (show 0 < d.rows.length by omega)
  have hh := Nat.mod_lt (bsrc b i) (show 0 < d.hk by omega)
  have a2 := hget i _ hq
  have a3 := hln i
  have z1 := h63 i (bsrc b i / 8 % d.rows.length)
  have w1 := w_andN ((lostTo d b i).getD (bsrc b i / 8 % d.rows.length) 0) (2 ^ (bsrc b i % d.hk)) (by omega)
  rw [Cp.subN_eq (by omega)] at w1
  rw [hset i]
  have e1 : Int.tdiv (bsrc b i : Int) 8 = ((bsrc b i / 8 : Nat) : Int) := rfl
  have e2 : Int.tmod ((bsrc b i / 8 : Nat) : Int) (d.rows.length : Int) = ((bsrc b i / 8 % d.rows.length : Nat) : Int) := rfl
  have e3 : Int.tmod (bsrc b i : Int) (d.hk : Int) = ((bsrc b i % d.hk : Nat) : Int) := rfl
  have s1 := w_shl1 (bsrc b i % d.hk) (by omega)
  have u1 : IntKind.wrap .u64 ((bsrc b i % d.hk : Nat) : Int) = ((bsrc b i % d.hk : Nat) : Int) := wrap_u64 (by omega) (by omega)
  clear hset hat hlt hget hln h63 hz hC hnl
  have x8 : bsrc b i / 8 < 256 := by omega
  generalize bsrc b i / 8 % d.rows.length = q at *
  generalize bsrc b i / 8 = y at *
  generalize bsrc b i % d.hk = H at *
  generalize subN ((lostTo d b i).getD q 0) (2 ^ H) = sb at *
  generalize (lostTo d b i).getD q 0 = z at *
  generalize bsrc b i = x at *
  have p1 : 2 ^ H ≤ 2 ^ 24 := Nat.pow_le_pow_right (by omega) (by omega)
  generalize 2 ^ H = pk at *
  generalize natsV (lostTo d b i) = L at *
  repeat (first | apply Wp.seqA | apply Wp.skipS | apply Wp.blockS | ((first | apply Wp.regS | apply Wp.condV | apply Wp.reg | apply Wp.condW | apply fin_ret); simp -implicitDefEqProofs (maxSteps := 2000000) (disch := first | exact tt_rfl rfl | omega | (simp only [go_sem] <;> omega) | fail) only [go_sem, h', hib, hi6, Int.ofNat_lt, hbl, a1, e1, e2, e3, s1, u1, a2, a3, w1, Int.toNat_natCast, decide_true, decide_false, show ¬ (d.rows.length : Int) = 0 by omega, show ¬ (d.hk : Int) = 0 by omega, show q < d.rows.length from hq] <;> try with_reducible rfl) | apply Wp.block | apply Wp.exitS | apply Wp.retS | apply Wp.exit | apply Wp.ret | apply Wp.skip)
  apply round_next
  ·simp -implicitDefEqProofs (maxSteps := 2000000) (disch := first | exact tt_rfl rfl | omega | (simp only [go_sem] <;> omega) | fail) only [go_sem, norm_eq, Ok.some]; with_reducible rfl
  exact ⟨h', by simp, trivial⟩
 ·obtain rfl : i = N := by omega
  have a3 := hln i
  have P1 := Cp.nats_plain (lostTo d b i)
  have t1 : (natsV (lostTo d b i)).take d.rows.length = natsV (lostTo d b i) := List.take_of_length_le (by omega)
  clear hset hat hlt hget hln h63 hz hC hnl
  generalize natsV (lostTo d b i) = L at *
  by_cases hl : (i : Int) < b.length
  ·repeat (first | apply Wp.seqA | apply Wp.skipS | apply Wp.blockS | ((first | apply Wp.regS | apply Wp.condV | apply Wp.reg | apply Wp.condW | apply fin_ret); simp -implicitDefEqProofs (maxSteps := 2000000) (disch := first | exact tt_rfl rfl | omega | (simp only [go_sem] <;> omega) | fail) only [go_sem, hl, hbl, a3, P1, t1, decide_true, decide_false, show ¬ (i : Int) < 6 by omega] <;> try with_reducible rfl) | apply Wp.block | apply Wp.exitS | apply Wp.retS | apply Wp.exit | apply Wp.ret | apply Wp.skip)
  ·repeat (first | apply Wp.seqA | apply Wp.skipS | apply Wp.blockS | ((first | apply Wp.regS | apply Wp.condV | apply Wp.reg | apply Wp.condW | apply fin_ret); simp -implicitDefEqProofs (maxSteps := 2000000) (disch := first | exact tt_rfl rfl | omega | (simp only [go_sem] <;> omega) | fail) only [go_sem, hl, hbl, a3, P1, t1, decide_true, decide_false] <;> try with_reducible rfl) | apply Wp.block | apply Wp.exitS | apply Wp.retS | apply Wp.exit | apply Wp.ret | apply Wp.skip)
end Go.Abs

set_option linter.all false
namespace Go.Abs
set_option maxRecDepth 10000
set_option maxHeartbeats 4000000
open Cp (SetsOk setV)

def listsV (l : List (List ByteB)) : List AV := l.map fun b => .list 1 (bytesV b)
@[simp] theorem lists_len (l : List (List ByteB)) : (listsV l).length = l.length := by simp [listsV]
def nineB : List ByteB := [9, 2]
def someB (l : List (List ByteB)) (i : Nat) : List ByteB := l[i]?.getD nineB
/-- the copies -/
def copiesN (d : DesN) (l : List (List ByteB)) : List DesN := (List.range (max 1 (min l.length 5))).map fun i => lostD d (someB l i)
theorem copies_len (d : DesN) (l : List (List ByteB)) : 1 ≤ (copiesN d l).length ∧ (copiesN d l).length ≤ 5 := by simp [copiesN]; omega
theorem copies_ok {d : DesN} (h : d.Ok) (l : List (List ByteB)) : SetsOk (copiesN d l) d.hk d.rows.length where
 l1 := (copies_len d l).1
 l10 := by have := (copies_len d l).2; omega
 ok := fun c hc => by obtain ⟨i, _, rfl⟩ := List.mem_map.1 hc; exact lost_is h _
 hk := fun c hc => by obtain ⟨i, _, rfl⟩ := List.mem_map.1 hc; rfl
 rows := fun c hc => by obtain ⟨i, _, rfl⟩ := List.mem_map.1 hc; simp [lostD]
theorem copies_sub (d : DesN) (l : List (List ByteB)) {c : DesN} (hc : c ∈ copiesN d l) : ∀ q j, (c.rows.getD q 0).testBit j = true → (d.rows.getD q 0).testBit j = true := by
 obtain ⟨i, _, rfl⟩ := List.mem_map.1 hc
 exact fun q j h => lostTo_bit d _ _ q j h
theorem copies_top (d : DesN) (h : d.Ok) (l : List (List ByteB)) : lim F 5 [iv 1, .agg [iv (d.hk : Int), .list 1 (natsV d.rows)], .list 1 (listsV l)] = some (.own 2 ((copiesN d l).map setV), []) := by
 have hll := lists_len l
 have hat : ∀ i (h : i < l.length), (listsV l)[i]? = some (.list 1 (bytesV (someB l i))) := fun i h => by
  unfold someB listsV
  rw [List.getElem?_map, List.getElem?_eq_getElem h]; rfl
 have hno : ∀ i, ¬ i < l.length → someB l i = nineB := fun i h => by
  unfold someB
  rw [List.getElem?_eq_none (by omega)]; rfl
 have hn : bytesV nineB = [.int .u8 9, .int .u8 2] := rfl
 have hC := fun b => lost_top d h b
 have hst : ∀ n, ((List.range (n + 1)).map fun i => lostD d (someB l i)).map setV = ((List.range n).map fun i => lostD d (someB l i)).map setV ++ [.agg [iv (d.hk : Int), .list 1 (natsV (lostD d (someB l n)).rows)]] := fun n => by
  rw [List.range_succ, List.map_append, List.map_append]; rfl
 have hln : ∀ n, (((List.range n).map fun i => lostD d (someB l i)).map setV).length = n := fun n => by simp
 have hrl : ∀ b, (natsV (lostD d b).rows).length = d.rows.length := fun b => by simp [lostD]
 have r1 := h.r1
 have r60 := h.r60
 unfold copiesN
 generalize listsV l = es at *
 refine lim_by (fn := a5) (k := 3) (res := [.tmp 6]) rfl rfl rfl (by simp -implicitDefEqProofs (maxSteps := 2000000) (disch := first | exact tt_rfl rfl | omega | (simp only [go_sem] <;> omega) | fail) only [go_sem]) ?_
 try delta mvA
 try delta opA
 try delta tA
 simp -implicitDefEqProofs (maxSteps := 2000000) (disch := first | exact tt_rfl rfl | omega | (simp only [go_sem] <;> omega) | fail) only [go_sem]
 repeat (first | apply Wp.seqA | apply Wp.skipS | apply Wp.blockS | ((first | apply Wp.regS | apply Wp.condV | apply Wp.reg | apply Wp.condW | apply fin_ret); simp -implicitDefEqProofs (maxSteps := 2000000) (disch := first | exact tt_rfl rfl | omega | (simp only [go_sem] <;> omega) | fail) only [go_sem, hll] <;> try with_reducible rfl) | apply Wp.block | apply Wp.exitS | apply Wp.retS | apply Wp.exit | apply Wp.ret | apply Wp.skip)
 generalize hN : max 1 (min l.length 5) = N at *
 apply Wp.loopF N (fun i => ⟨[(0, iv 1), (2, .list 1 es), (4, .ptr 256 0 0), (7, .slice 448 0 i), (8, iv (i : Int))], [(256, .box [iv (d.hk : Int), .list 1 (natsV d.rows)]), (448, .arr 2 (((List.range i).map fun i => lostD d (someB l i)).map setV))], [], 10000000⟩) (fun _ => True)
 ·simp -implicitDefEqProofs (maxSteps := 2000000) (disch := first | exact tt_rfl rfl | omega | (simp only [go_sem] <;> omega) | fail) only [go_sem, norm_eq, Ok.some]
  rfl
 ·trivial
 intro i hi _
 have n1 := hln i
 by_cases h' : i < N
 ·rw [hst i]
  have hcond : (i : Int) = 0 ∨ (¬ (i : Int) = 0 ∧ (i : Int) < l.length ∧ (i : Int) < 5) := by omega
  have htk : (natsV (lostD d (someB l i)).rows).take d.rows.length = natsV (lostD d (someB l i)).rows := List.take_of_length_le (by rw [hrl]; omega)
  have c1 := hC (someB l i)
  have c2 := hrl (someB l i)
  have P1 := Cp.nats_plain (lostD d (someB l i)).rows
  by_cases hl : i < l.length
  ·have a1 := hat i hl
   clear hst hln hat hno hC hrl
   generalize ((List.range i).map fun i => lostD d (someB l i)).map setV = L at *
   generalize natsV (lostD d (someB l i)).rows = R at *
   generalize bytesV (someB l i) = bs at *
   rcases hcond with h0 | ⟨h0, h1, h2⟩
   ·have h0' := eq_true h0
    clear h0
    repeat (first | apply Wp.seqA | apply Wp.skipS | apply Wp.blockS | ((first | apply Wp.regS | apply Wp.condV | apply Wp.reg | apply Wp.condW | apply fin_ret); simp -implicitDefEqProofs (maxSteps := 2000000) (disch := first | exact tt_rfl rfl | omega | (simp only [go_sem] <;> omega) | fail) only [go_sem, h0', hl, Int.ofNat_lt, hll, a1, c1, c2, P1, htk, n1, decide_true, decide_false] <;> try with_reducible rfl) | apply Wp.block | apply Wp.exitS | apply Wp.retS | apply Wp.exit | apply Wp.ret | apply Wp.skip)
    apply round_next
    ·simp -implicitDefEqProofs (maxSteps := 2000000) (disch := first | exact tt_rfl rfl | omega | (simp only [go_sem] <;> omega) | fail) only [go_sem, norm_eq, Ok.some]; with_reducible rfl
    exact ⟨h', by simp, trivial⟩
   ·repeat (first | apply Wp.seqA | apply Wp.skipS | apply Wp.blockS | ((first | apply Wp.regS | apply Wp.condV | apply Wp.reg | apply Wp.condW | apply fin_ret); simp -implicitDefEqProofs (maxSteps := 2000000) (disch := first | exact tt_rfl rfl | omega | (simp only [go_sem] <;> omega) | fail) only [go_sem, h0, h1, h2, hl, Int.ofNat_lt, hll, a1, c1, c2, P1, htk, n1, decide_true, decide_false] <;> try with_reducible rfl) | apply Wp.block | apply Wp.exitS | apply Wp.retS | apply Wp.exit | apply Wp.ret | apply Wp.skip)
    apply round_next
    ·simp -implicitDefEqProofs (maxSteps := 2000000) (disch := first | exact tt_rfl rfl | omega | (simp only [go_sem] <;> omega) | fail) only [go_sem, norm_eq, Ok.some]; with_reducible rfl
    exact ⟨h', by simp, trivial⟩
  ·have hi0 : i = 0 := by omega
   rw [hno i hl, hn] at c1
   rw [hno i hl] at htk c2 P1 ⊢
   clear hst hln hat hno hC hrl
   generalize natsV (lostD d nineB).rows = R at *
   subst hi0
   have h0' : (((0 : Nat) : Int) = 0) = True := eq_true rfl
   repeat (first | apply Wp.seqA | apply Wp.skipS | apply Wp.blockS | ((first | apply Wp.regS | apply Wp.condV | apply Wp.reg | apply Wp.condW | apply fin_ret); simp -implicitDefEqProofs (maxSteps := 2000000) (disch := first | exact tt_rfl rfl | omega | (simp only [go_sem] <;> omega) | fail) only [go_sem, h0', hl, Int.ofNat_lt, hll, c1, c2, P1, htk, n1, decide_true, decide_false] <;> try with_reducible rfl) | apply Wp.block | apply Wp.exitS | apply Wp.retS | apply Wp.exit | apply Wp.ret | apply Wp.skip)
   apply round_next
   ·simp -implicitDefEqProofs (maxSteps := 2000000) (disch := first | exact tt_rfl rfl | omega | (simp only [go_sem] <;> omega) | fail) only [go_sem, norm_eq, Ok.some]; with_reducible rfl
   exact ⟨h', by simp, trivial⟩
 ·obtain rfl : i = N := by omega
  have h0 : ¬ (i : Int) = 0 := by omega
  have t1 : (((List.range i).map fun i => lostD d (someB l i)).map setV).take i = ((List.range i).map fun i => lostD d (someB l i)).map setV := List.take_of_length_le (by omega)
  clear hst hln hat hno hC hrl
  generalize ((List.range i).map fun i => lostD d (someB l i)).map setV = L at *
  by_cases hl : (i : Int) < l.length
  ·repeat (first | apply Wp.seqA | apply Wp.skipS | apply Wp.blockS | ((first | apply Wp.regS | apply Wp.condV | apply Wp.reg | apply Wp.condW | apply fin_ret); simp -implicitDefEqProofs (maxSteps := 2000000) (disch := first | exact tt_rfl rfl | omega | (simp only [go_sem] <;> omega) | fail) only [go_sem, h0, hl, hll, n1, t1, decide_true, decide_false, show ¬ (i : Int) < 5 by omega] <;> try with_reducible rfl) | apply Wp.block | apply Wp.exitS | apply Wp.retS | apply Wp.exit | apply Wp.ret | apply Wp.skip)
  ·repeat (first | apply Wp.seqA | apply Wp.skipS | apply Wp.blockS | ((first | apply Wp.regS | apply Wp.condV | apply Wp.reg | apply Wp.condW | apply fin_ret); simp -implicitDefEqProofs (maxSteps := 2000000) (disch := first | exact tt_rfl rfl | omega | (simp only [go_sem] <;> omega) | fail) only [go_sem, h0, hl, hll, n1, t1, decide_true, decide_false] <;> try with_reducible rfl) | apply Wp.block | apply Wp.exitS | apply Wp.retS | apply Wp.exit | apply Wp.ret | apply Wp.skip)

theorem setV_at {l : List DesN} {i : Nat} (h : i < l.length) : (l.map setV)[i]? = some (.agg [iv (l[i].hk : Int), .list 1 (natsV l[i].rows)]) := by
 rw [List.getElem?_map, List.getElem?_eq_getElem h]; rfl
def setT (d : DesN) : AV := .agg [iv (d.hk : Int), .own 1 (natsV d.rows)]
theorem setT_fe (l : List DesN) : (l.map setT).map AV.tabFe = l.map setV := by
 rw [List.map_map]; rfl
theorem plain1_nats (l : List Nat) : (natsV l).all AV.plain1 = true := by simp [natsV, AV.plain1]
theorem pubSets_ok (l : List DesN) (hl : l.length ≤ 1000) (hr : ∀ d ∈ l, d.rows.length ≤ 1000) : lim F 7 [.list 2 (l.map setV)] = some (.ownT 2 (l.map setT), []) := by
 have hln : (l.map setV).length = l.length := by simp
 have hlT : (l.map setT).length = l.length := by simp
 have hg := fun i (h : i < l.length) => setV_at h
 have hC := fun i (h : i < l.length) => copy_ok l[i] (hr _ (List.getElem_mem h))
 have hst : ∀ i (h : i < l.length), (l.take (i + 1)).map setT = (l.take i).map setT ++ [.agg [iv (l[i].hk : Int), .own 1 (natsV l[i].rows)]] := fun i h => by
  rw [List.take_succ, List.getElem?_eq_getElem h, List.map_append]; rfl
 have hl0 : ∀ i, i ≤ l.length → ((l.take i).map setT).length = i := fun i h => by simp; omega
 generalize hes : l.map setV = es at *
 refine lim_by (fn := a7) (k := 1) (res := [.tmp 2]) rfl rfl rfl (by simp -implicitDefEqProofs (maxSteps := 2000000) (disch := first | exact tt_rfl rfl | omega | (simp only [go_sem] <;> omega) | fail) only [go_sem]) ?_
 try delta mvA
 try delta opA
 try delta tA
 simp -implicitDefEqProofs (maxSteps := 2000000) (disch := first | exact tt_rfl rfl | omega | (simp only [go_sem] <;> omega) | fail) only [go_sem]
 repeat (first | apply Wp.seqA | apply Wp.skipS | apply Wp.blockS | ((first | apply Wp.regS | apply Wp.condV | apply Wp.reg | apply Wp.condW | apply fin_ret); simp -implicitDefEqProofs (maxSteps := 2000000) (disch := first | exact tt_rfl rfl | omega | (simp only [go_sem] <;> omega) | fail) only [go_sem, hln] <;> try with_reducible rfl) | apply Wp.block | apply Wp.exitS | apply Wp.retS | apply Wp.exit | apply Wp.ret | apply Wp.skip)
 apply Wp.loopF l.length (fun i => ⟨[(0, .list 2 es), (3, .tabS 192 i), (4, iv (i : Int))], [(192, .tab 2 ((l.take i).map setT))], [], 10000000⟩) (fun _ => True)
 ·simp -implicitDefEqProofs (maxSteps := 2000000) (disch := first | exact tt_rfl rfl | omega | (simp only [go_sem] <;> omega) | fail) only [go_sem, norm_eq, Ok.some]
  rfl
 ·trivial
 intro i hi _
 by_cases h : i < l.length
 ·have h1 := hg i h
  have h2 := hC i h
  have e := hst i h
  have hl1 := hl0 i (by omega)
  generalize (l.take (i + 1)).map setT = L' at *
  generalize (l.take i).map setT = L at *
  have hrl : (natsV l[i].rows).length = l[i].rows.length := by simp
  have P1 := Cp.nats_plain l[i].rows
  have P2 := plain1_nats l[i].rows
  generalize natsV l[i].rows = R at *
  repeat (first | apply Wp.seqA | apply Wp.skipS | apply Wp.blockS | ((first | apply Wp.regS | apply Wp.condV | apply Wp.reg | apply Wp.condW | apply fin_ret); simp -implicitDefEqProofs (maxSteps := 2000000) (disch := first | exact tt_rfl rfl | omega | (simp only [go_sem] <;> omega) | fail) only [go_sem, h, Int.ofNat_lt, h1, h2, hln, hl1, hrl, P1, P2] <;> try with_reducible rfl) | apply Wp.block | apply Wp.exitS | apply Wp.retS | apply Wp.exit | apply Wp.ret | apply Wp.skip)
  apply round_next
  ·simp -implicitDefEqProofs (maxSteps := 2000000) (disch := first | exact tt_rfl rfl | omega | (simp only [go_sem] <;> omega) | fail) only [go_sem, norm_eq, Ok.some]; with_reducible rfl
  exact ⟨h, by simp [e], trivial⟩
 ·obtain rfl : i = l.length := by omega
  rw [List.take_length]
  generalize l.map setT = M at *
  repeat (first | apply Wp.seqA | apply Wp.skipS | apply Wp.blockS | ((first | apply Wp.regS | apply Wp.condV | apply Wp.reg | apply Wp.condW | apply fin_ret); simp -implicitDefEqProofs (maxSteps := 2000000) (disch := first | exact tt_rfl rfl | omega | (simp only [go_sem] <;> omega) | fail) only [go_sem, Int.lt_irrefl, hln, hlT] <;> try with_reducible rfl) | apply Wp.block | apply Wp.exitS | apply Wp.retS | apply Wp.exit | apply Wp.ret | apply Wp.skip)
theorem pubSame_self (l : List Nat) (hl : l.length ≤ 1000) : lim F 33 [.list 1 (natsV l), .list 1 (natsV l)] = some (.bool true, []) := by
 have hln : (natsV l).length = l.length := by simp
 have hg := fun i (h : i < l.length) => nats_at h
 generalize natsV l = es at *
 refine lim_by (fn := a33) (k := 2) (res := [.tmp 4]) rfl rfl rfl (by simp -implicitDefEqProofs (maxSteps := 2000000) (disch := first | exact tt_rfl rfl | omega | (simp only [go_sem] <;> omega) | fail) only [go_sem]) ?_
 try delta mvA
 try delta opA
 try delta tA
 simp -implicitDefEqProofs (maxSteps := 2000000) (disch := first | exact tt_rfl rfl | omega | (simp only [go_sem] <;> omega) | fail) only [go_sem]
 repeat (first | apply Wp.seqA | apply Wp.skipS | apply Wp.blockS | ((first | apply Wp.regS | apply Wp.condV | apply Wp.reg | apply Wp.condW | apply fin_ret); simp -implicitDefEqProofs (maxSteps := 2000000) (disch := first | exact tt_rfl rfl | omega | (simp only [go_sem] <;> omega) | fail) only [go_sem, hln] <;> try with_reducible rfl) | apply Wp.block | apply Wp.exitS | apply Wp.retS | apply Wp.exit | apply Wp.ret | apply Wp.skip)
 apply Wp.loopF l.length (fun i => ⟨[(0, .list 1 es), (1, .list 1 es), (5, iv (i : Int))], [], [], 10000000⟩) (fun _ => True)
 ·simp -implicitDefEqProofs (maxSteps := 2000000) (disch := first | exact tt_rfl rfl | omega | (simp only [go_sem] <;> omega) | fail) only [go_sem, norm_eq, Ok.some]
  rfl
 ·trivial
 intro i hi _
 by_cases h : i < l.length
 ·have h1 := hg i h
  repeat (first | apply Wp.seqA | apply Wp.skipS | apply Wp.blockS | ((first | apply Wp.regS | apply Wp.condV | apply Wp.reg | apply Wp.condW | apply fin_ret); simp -implicitDefEqProofs (maxSteps := 2000000) (disch := first | exact tt_rfl rfl | omega | (simp only [go_sem] <;> omega) | fail) only [go_sem, h, Int.ofNat_lt, h1, hln, bne_self_eq_false] <;> try with_reducible rfl) | apply Wp.block | apply Wp.exitS | apply Wp.retS | apply Wp.exit | apply Wp.ret | apply Wp.skip)
  apply round_next
  ·simp -implicitDefEqProofs (maxSteps := 2000000) (disch := first | exact tt_rfl rfl | omega | (simp only [go_sem] <;> omega) | fail) only [go_sem, norm_eq, Ok.some]; with_reducible rfl
  exact ⟨h, by simp, trivial⟩
 ·obtain rfl : i = l.length := by omega
  repeat (first | apply Wp.seqA | apply Wp.skipS | apply Wp.blockS | ((first | apply Wp.regS | apply Wp.condV | apply Wp.reg | apply Wp.condW | apply fin_ret); simp -implicitDefEqProofs (maxSteps := 2000000) (disch := first | exact tt_rfl rfl | omega | (simp only [go_sem] <;> omega) | fail) only [go_sem, Int.lt_irrefl, hln] <;> try with_reducible rfl) | apply Wp.block | apply Wp.exitS | apply Wp.retS | apply Wp.exit | apply Wp.ret | apply Wp.skip)
theorem pubAlike_self (d : DesN) (hl : d.rows.length ≤ 1000) : lim F 14 [.agg [iv (d.hk : Int), .list 1 (natsV d.rows)], .agg [iv (d.hk : Int), .list 1 (natsV d.rows)]] = some (.bool true, []) := by
 have h := pubSame_self d.rows hl
 generalize natsV d.rows = es at *
 refine lim_by (fn := a14) (k := 2) (res := [.tmp 4]) rfl rfl rfl (by simp -implicitDefEqProofs (maxSteps := 2000000) (disch := first | exact tt_rfl rfl | omega | (simp only [go_sem] <;> omega) | fail) only [go_sem]) ?_
 try delta mvA
 try delta opA
 try delta tA
 simp -implicitDefEqProofs (maxSteps := 2000000) (disch := first | exact tt_rfl rfl | omega | (simp only [go_sem] <;> omega) | fail) only [go_sem]
 repeat (first | apply Wp.seqA | apply Wp.skipS | apply Wp.blockS | ((first | apply Wp.regS | apply Wp.condV | apply Wp.reg | apply Wp.condW | apply fin_ret); simp -implicitDefEqProofs (maxSteps := 2000000) (disch := first | exact tt_rfl rfl | omega | (simp only [go_sem] <;> omega) | fail) only [go_sem, h] <;> try with_reducible rfl) | apply Wp.block | apply Wp.exitS | apply Wp.retS | apply Wp.exit | apply Wp.ret | apply Wp.skip)
end Go.Abs
