/-
 Chapter 1: designs in bytes. No condition beyond those that each theorem names.
-/
import Derived.Test.YtkjlmfabhejbnaaDoorP2
import Derived.Test.YtkjlmfabhejbnaaDoorP4
set_option linter.all false
namespace Go.Abs
set_option maxRecDepth 10000
set_option maxHeartbeats 4000000

structure PaperB where
 hk : Fin 256
 rows : List (Fin 65536)
def PaperB.av (x : PaperB) : AV := .agg [.int .u8 (x.hk.1 : Int), .list 1 (x.rows.map fun r => .int .u16 (r.1 : Int))]
@[go_sem] theorem u16_plain (l : List (Fin 65536)) : (l.map fun r => AV.int .u16 (r.1 : Int)).all AV.plain = true := by
 simp [AV.plain, AV.plain1]
def PaperB.src (x : PaperB) (i : Nat) : Nat := (x.rows[i]?.map fun r => r.1).getD 37
def paperRow (hk r : Nat) : Nat := (r ||| r * 65536) &&& (2 ^ hk - 1)
/-- the design of some bytes -/
def paperN (x : PaperB) (m : Nat) : DesN := ⟨1 + x.hk.1 % m, (List.range (max 1 (min x.rows.length 20))).map fun i => paperRow (1 + x.hk.1 % m) (x.src i)⟩
theorem paperRow_lt (hk r : Nat) : paperRow hk r < 2 ^ hk := by
 unfold paperRow
 have h : (r ||| r * 65536) &&& (2 ^ hk - 1) ≤ 2 ^ hk - 1 := Nat.and_le_right
 have : 0 < 2 ^ hk := Nat.pow_pos (by omega)
 omega
theorem paper_ok (x : PaperB) {m : Nat} (h : 1 ≤ m) (h' : m ≤ 24) : (paperN x m).Ok where
 h1 := by unfold paperN; dsimp only; omega
 h24 := by unfold paperN; dsimp only; have := Nat.mod_lt x.hk.1 (show 0 < m by omega); omega
 r1 := by simp [paperN]; omega
 r60 := by simp [paperN]; omega
 lt := fun r hr => by
  obtain ⟨q, _, rfl⟩ := List.mem_map.1 hr
  exact paperRow_lt _ _
theorem src_lt (x : PaperB) (i : Nat) : x.src i < 65536 := by
 unfold PaperB.src
 cases h : x.rows[i]? with
 | none => simp
 | some r => exact r.2
theorem design_ok (x : PaperB) (m : Nat) (h : 1 ≤ m) (h' : m ≤ 24) : lim F 16 [x.av, iv (m : Int)] = some (.agg [iv ((paperN x m).hk : Int), .own 1 ((paperN x m).rows.map fun n : Nat => iv (n : Int))], []) := by
 have hx := x.hk.2
 have e0 : Int.tmod (x.hk.1 : Int) (m : Int) = ((x.hk.1 % m : Nat) : Int) := by rw [Int.tmod_eq_emod_of_nonneg (Int.natCast_nonneg _)]; simp
 have hml := Nat.mod_lt x.hk.1 (show 0 < m by omega)
 have hlen : (x.rows.map fun r : Fin 65536 => AV.int .u16 (r.1 : Int)).length = x.rows.length := by simp
 have hg : ∀ i (h : i < x.rows.length), (x.rows.map fun r : Fin 65536 => AV.int .u16 (r.1 : Int))[i]? = some (.int .u16 (x.src i : Int)) := fun i h => by
  unfold PaperB.src
  rw [List.getElem?_map, List.getElem?_eq_getElem h]; rfl
 have hno : ∀ i, ¬ i < x.rows.length → x.src i = 37 := fun i h => by
  unfold PaperB.src
  rw [List.getElem?_eq_none (by omega)]; rfl
 unfold PaperB.av paperN
 dsimp only
 have hhk : ((1 + x.hk.1 % m : Nat) : Int) = 1 + ((x.hk.1 % m : Nat) : Int) := by omega
 have hk24 : 1 + x.hk.1 % m ≤ 24 := by omega
 have u1 : IntKind.wrap .u64 (((1 + x.hk.1 % m : Nat) : Int)) = ((1 + x.hk.1 % m : Nat) : Int) := wrap_u64 (by omega) (by omega)
 generalize x.hk.1 % m = q at *
 generalize hH : 1 + q = H at *
 have s1 := w_shl1 H (by omega)
 have p1 : 2 ^ H ≤ 2 ^ 24 := Nat.pow_le_pow_right (by omega) (by omega)
 have p2 : 0 < 2 ^ H := Nat.pow_pos (by omega)
 have hL : ∀ n, ((List.range n).map fun i => paperRow H (x.src i)).length = n := fun n => by simp
 have hstep : ∀ n, ((List.range (n + 1)).map fun i => paperRow H (x.src i)).map (fun n : Nat => iv (n : Int)) = ((List.range n).map fun i => paperRow H (x.src i)).map (fun n : Nat => iv (n : Int)) ++ [iv ((paperRow H (x.src n) : Nat) : Int)] := fun n => by
  rw [List.range_succ, List.map_append, List.map_append]; rfl
 generalize x.rows.map (fun r : Fin 65536 => AV.int .u16 (r.1 : Int)) = es at *
 refine lim_by (fn := a16) (k := 2) (res := [.cell 4 2 true]) rfl rfl rfl (by simp -implicitDefEqProofs (maxSteps := 2000000) (disch := first | exact tt_rfl rfl | omega | (simp only [go_sem] <;> omega) | fail) only [go_sem]) ?_
 simp -implicitDefEqProofs (maxSteps := 2000000) (disch := first | exact tt_rfl rfl | omega | (simp only [go_sem] <;> omega) | fail) only [go_sem]
 repeat (first | apply Wp.seqA | apply Wp.skipS | apply Wp.blockS | ((first | apply Wp.regS | apply Wp.condV | apply Wp.reg | apply Wp.condW | apply fin_ret); simp -implicitDefEqProofs (maxSteps := 2000000) (disch := first | exact tt_rfl rfl | omega | (simp only [go_sem] <;> omega) | fail) only [go_sem, e0, ← hhk, show (m : Int) ≠ 0 by omega] <;> try with_reducible rfl) | apply Wp.block | apply Wp.exitS | apply Wp.retS | apply Wp.exit | apply Wp.ret | apply Wp.skip)
 apply Wp.loopF (max 1 (min x.rows.length 20)) (fun i => ⟨[(2, .ptr 128 0 0), (4, .ptr 256 0 0), (5, .ptr 320 0 0), (6, iv (i : Int))], [(128, .box [.int .u8 (x.hk.1 : Int), .list 1 es]), (256, .box [iv 0, .slice 304097 0 0]), (320, .box [iv (H : Int), .slice 305121 0 (((List.range i).map fun i => paperRow H (x.src i)).map fun n : Nat => iv (n : Int)).length]), (304097, .arr 1 []), (305121, .arr 1 (((List.range i).map fun i => paperRow H (x.src i)).map fun n : Nat => iv (n : Int)))], [], 10000000⟩) (fun _ => True)
 ·simp -implicitDefEqProofs (maxSteps := 2000000) (disch := first | exact tt_rfl rfl | omega | (simp only [go_sem] <;> omega) | fail) only [go_sem, norm_eq, Ok.some]
  rfl
 ·trivial
 intro i hi _
 by_cases h : i < max 1 (min x.rows.length 20)
 ·have hs := hstep i
  have hsl := src_lt x i
  have hfl : (((List.range i).map fun i => paperRow H (x.src i)).map fun n : Nat => iv (n : Int)).length ≤ 20 := by simp; omega
  have w1 := w_shl (x.src i) 16 (by omega) (by omega)
  rw [show x.src i * 2 ^ 16 = x.src i * 65536 from rfl] at w1
  have w2 := w_or (x.src i) (x.src i * 65536) (by omega) (by omega)
  have hor : x.src i ||| x.src i * 65536 < 4294967296 := Nat.or_lt_two_pow (n := 32) (by omega) (by omega)
  have w3 := w_and (x.src i ||| x.src i * 65536) (2 ^ H - 1) (by omega) (by omega)
  have em : ((2 ^ H : Nat) : Int) - 1 = ((2 ^ H - 1 : Nat) : Int) := by omega
  change _ = ((paperRow H (x.src i) : Nat) : Int) at w3
  have hgi := hg i
  have hni := hno i
  generalize ((List.range i).map fun i => paperRow H (x.src i)).map (fun n : Nat => iv (n : Int)) = fs at *
  generalize ((List.range (i + 1)).map fun i => paperRow H (x.src i)).map (fun n : Nat => iv (n : Int)) = fs' at *
  generalize paperRow H (x.src i) = r' at *
  generalize hor' : x.src i ||| x.src i * 65536 = orv at *
  generalize hsv : x.src i = sv at *
  generalize 2 ^ H = pw at *
  by_cases h1 : i < x.rows.length
  ·have hgi := hgi h1
   by_cases h0 : i = 0
   ·subst h0
    repeat (first | apply Wp.seqA | apply Wp.skipS | apply Wp.blockS | ((first | apply Wp.regS | apply Wp.condV | apply Wp.reg | apply Wp.condW | apply fin_ret); simp -implicitDefEqProofs (maxSteps := 2000000) (disch := first | exact tt_rfl rfl | omega | (simp only [go_sem] <;> omega) | fail) only [go_sem, hlen, h1, Int.ofNat_lt, hgi, w1, w2, w3, u1, s1, em, Int.toNat_natCast, Int.natCast_zero, show (0 : Int) < x.rows.length by omega] <;> try with_reducible rfl) | apply Wp.block | apply Wp.exitS | apply Wp.retS | apply Wp.exit | apply Wp.ret | apply Wp.skip)
    apply round_next
    ·simp -implicitDefEqProofs (maxSteps := 2000000) (disch := first | exact tt_rfl rfl | omega | (simp only [go_sem] <;> omega) | fail) only [go_sem, norm_eq, Ok.some]; with_reducible rfl
    refine ⟨h, ?_, trivial⟩
    rw [hs]
    simp
   ·repeat (first | apply Wp.seqA | apply Wp.skipS | apply Wp.blockS | ((first | apply Wp.regS | apply Wp.condV | apply Wp.reg | apply Wp.condW | apply fin_ret); simp -implicitDefEqProofs (maxSteps := 2000000) (disch := first | exact tt_rfl rfl | omega | (simp only [go_sem] <;> omega) | fail) only [go_sem, hlen, h1, Int.ofNat_lt, hgi, w1, w2, w3, u1, s1, em, Int.toNat_natCast, show ¬ (i : Int) = 0 by omega, show (i : Int) < 20 by omega] <;> try with_reducible rfl) | apply Wp.block | apply Wp.exitS | apply Wp.retS | apply Wp.exit | apply Wp.ret | apply Wp.skip)
    apply round_next
    ·simp -implicitDefEqProofs (maxSteps := 2000000) (disch := first | exact tt_rfl rfl | omega | (simp only [go_sem] <;> omega) | fail) only [go_sem, norm_eq, Ok.some]; with_reducible rfl
    refine ⟨h, ?_, trivial⟩
    rw [hs]
    simp
  ·obtain rfl : i = 0 := by omega
   have e37 := hni h1
   subst e37
   rw [show ((37 : Nat) : Int) = 37 from rfl] at w1 w2
   repeat (first | apply Wp.seqA | apply Wp.skipS | apply Wp.blockS | ((first | apply Wp.regS | apply Wp.condV | apply Wp.reg | apply Wp.condW | apply fin_ret); simp -implicitDefEqProofs (maxSteps := 2000000) (disch := first | exact tt_rfl rfl | omega | (simp only [go_sem] <;> omega) | fail) only [go_sem, hlen, h1, Int.ofNat_lt, w1, w2, w3, u1, s1, em, Int.toNat_natCast, Int.natCast_zero, show ¬ (0 : Int) < x.rows.length by omega] <;> try with_reducible rfl) | apply Wp.block | apply Wp.exitS | apply Wp.retS | apply Wp.exit | apply Wp.ret | apply Wp.skip)
   apply round_next
   ·simp -implicitDefEqProofs (maxSteps := 2000000) (disch := first | exact tt_rfl rfl | omega | (simp only [go_sem] <;> omega) | fail) only [go_sem, norm_eq, Ok.some]; with_reducible rfl
   refine ⟨h, ?_, trivial⟩
   rw [hs]
   simp
 ·have e : i = max 1 (min x.rows.length 20) := by omega
  rw [← e]
  have hpl := nat_plain ((List.range i).map fun i => paperRow H (x.src i))
  generalize ((List.range i).map fun i => paperRow H (x.src i)).map (fun n : Nat => iv (n : Int)) = fs at *
  by_cases h1 : i < x.rows.length
  ·repeat (first | apply Wp.seqA | apply Wp.skipS | apply Wp.blockS | ((first | apply Wp.regS | apply Wp.condV | apply Wp.reg | apply Wp.condW | apply fin_ret); simp -implicitDefEqProofs (maxSteps := 2000000) (disch := first | exact tt_rfl rfl | omega | (simp only [go_sem] <;> omega) | fail) only [go_sem, hlen, h1, Int.ofNat_lt, hpl, show ¬ (i : Int) = 0 by omega, show ¬ (i : Int) < 20 by omega, List.take_length] <;> try with_reducible rfl) | apply Wp.block | apply Wp.exitS | apply Wp.retS | apply Wp.exit | apply Wp.ret | apply Wp.skip)
  ·repeat (first | apply Wp.seqA | apply Wp.skipS | apply Wp.blockS | ((first | apply Wp.regS | apply Wp.condV | apply Wp.reg | apply Wp.condW | apply fin_ret); simp -implicitDefEqProofs (maxSteps := 2000000) (disch := first | exact tt_rfl rfl | omega | (simp only [go_sem] <;> omega) | fail) only [go_sem, hlen, h1, Int.ofNat_lt, hpl, show ¬ (i : Int) = 0 by omega, List.take_length] <;> try with_reducible rfl) | apply Wp.block | apply Wp.exitS | apply Wp.retS | apply Wp.exit | apply Wp.ret | apply Wp.skip)
end Go.Abs
