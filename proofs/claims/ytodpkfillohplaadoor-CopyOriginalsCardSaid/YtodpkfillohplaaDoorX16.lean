/-
 Chapter 12: a row repeated. No condition beyond those that each theorem names.
-/
import Derived.Test.YtodpkfillohplaaDoorX15
set_option linter.all false
namespace Go.Abs
set_option maxRecDepth 10000
set_option maxHeartbeats 4000000

theorem Mul64_one (k : Nat) (hk : k ≤ 60) : lim F 97 [.int .u64 1, .int .u64 (k : Int)] = some (.tuple [.int .u64 0, .int .u64 (k : Int)], []) := by
 refine lim_by (fn := a97) (k := 2) (res := [.tmp 4, .tmp 5]) rfl rfl rfl (by simp -implicitDefEqProofs (maxSteps := 2000000) (disch := first | exact tt_rfl rfl | omega | (simp only [go_sem] <;> omega) | fail) only [go_sem]) ?_
 try delta mvA
 try delta opA
 try delta tA
 simp -implicitDefEqProofs (maxSteps := 2000000) (disch := first | exact tt_rfl rfl | omega | (simp only [go_sem] <;> omega) | fail) only [go_sem]
 repeat (first | apply Wp.seqA | apply Wp.skipS | apply Wp.blockS | ((first | apply Wp.regS | apply Wp.condV | apply Wp.reg | apply Wp.condW | apply fin_ret); simp -implicitDefEqProofs (maxSteps := 2000000) (disch := first | exact tt_rfl rfl | omega | (simp only [go_sem] <;> omega) | fail) only [go_sem] <;> try with_reducible rfl) | apply Wp.block | apply Wp.exitS | apply Wp.retS | apply Wp.exit | apply Wp.ret | apply Wp.skip)
 simp only [Option.some.injEq, Prod.mk.injEq, AV.tuple.injEq, List.cons.injEq, AV.int.injEq, true_and, and_true]
 replace hk : k < 61 := by omega
 revert k
 decide +kernel
theorem Mul_one (k : Nat) (hk : k ≤ 60) : lim F 94 [.int .u64 1, .int .u64 (k : Int)] = some (.tuple [.int .u64 0, .int .u64 (k : Int)], []) := by
 have h := Mul64_one k hk
 refine lim_by (fn := a94) (k := 2) (res := [.tmp 4, .tmp 5]) rfl rfl rfl (by simp -implicitDefEqProofs (maxSteps := 2000000) (disch := first | exact tt_rfl rfl | omega | (simp only [go_sem] <;> omega) | fail) only [go_sem]) ?_
 try delta mvA
 try delta opA
 try delta tA
 simp -implicitDefEqProofs (maxSteps := 2000000) (disch := first | exact tt_rfl rfl | omega | (simp only [go_sem] <;> omega) | fail) only [go_sem]
 repeat (first | apply Wp.seqA | apply Wp.skipS | apply Wp.blockS | ((first | apply Wp.regS | apply Wp.condV | apply Wp.reg | apply Wp.condW | apply fin_ret); simp -implicitDefEqProofs (maxSteps := 2000000) (disch := first | exact tt_rfl rfl | omega | (simp only [go_sem] <;> omega) | fail) only [go_sem, h] <;> try with_reducible rfl) | apply Wp.block | apply Wp.exitS | apply Wp.retS | apply Wp.exit | apply Wp.ret | apply Wp.skip)
theorem rep_row (m k : Nat) (h1 : m ≤ k) (x y : AV) : List.take m (List.replicate m x ++ List.replicate (k - m) y) ++ List.take (min m (k - m)) (List.take ((m : Int) - 0).toNat (List.replicate m x ++ List.replicate (k - m) y)) ++ List.drop (m + min m (k - m)) (List.replicate m x ++ List.replicate (k - m) y) = List.replicate (m + min m (k - m)) x ++ List.replicate (k - (m + min m (k - m))) y := by
 have e : ((m : Int) - 0).toNat = m := by omega
 rw [e, List.take_left' (by simp), List.drop_append, List.take_replicate, List.drop_replicate, List.drop_replicate]
 rw [show min (min m (k - m)) m = min m (k - m) by omega, show m - (m + min m (k - m)) = 0 by omega, List.replicate_zero, List.nil_append, List.length_replicate, List.replicate_append_replicate]
 congr 2
 omega
theorem Repeat_one (a k : Nat) (h1 : 1 ≤ k) (hk : k ≤ 60) : lim F 87 [.list 1 [iv (a : Int)], iv (k : Int)] = some (.own 1 (List.replicate k (iv (a : Int))), []) := by
 have h := Mul_one k hk
 have u1 : IntKind.wrap .u64 (k : Int) = k := wrap_u64 (by omega) (by omega)
 have u2 : IntKind.wrap .u64 ((1 : Nat) : Int) = 1 := wrap_u64 (by omega) (by omega)
 have u3 : IntKind.wrap .i64 (k : Int) = k := wrap_id (by omega) (by omega)
 refine lim_by (fn := a87) (k := 2) (res := [.tmp 4]) rfl rfl rfl (by simp -implicitDefEqProofs (maxSteps := 2000000) (disch := first | exact tt_rfl rfl | omega | (simp only [go_sem] <;> omega) | fail) only [go_sem]) ?_
 try delta mvA
 try delta opA
 try delta tA
 simp -implicitDefEqProofs (maxSteps := 2000000) (disch := first | exact tt_rfl rfl | omega | (simp only [go_sem] <;> omega) | fail) only [go_sem]
 have m1 : min 1 k = 1 := by omega
 have hrow : List.take 1 [iv (a : Int)] ++ List.drop 1 (List.replicate k (AV.int .i64 0)) = List.replicate 1 (iv (a : Int)) ++ List.replicate (k - 1) (AV.int .i64 0) := by
  rw [List.drop_replicate]; rfl
 repeat (first | apply Wp.seqA | apply Wp.skipS | apply Wp.blockS | ((first | apply Wp.regS | apply Wp.condV | apply Wp.reg | apply Wp.condW | apply fin_ret); simp -implicitDefEqProofs (maxSteps := 2000000) (disch := first | exact tt_rfl rfl | omega | (simp only [go_sem] <;> omega) | fail) only [go_sem, h, u1, u2, u3, show ¬ (9223372036854775807 : Int) < (k : Int) by omega, m1, hrow] <;> try with_reducible rfl) | apply Wp.block | apply Wp.exitS | apply Wp.retS | apply Wp.exit | apply Wp.ret | apply Wp.skip)
 apply Wp.loopM (fun d fr => ∃ m : Nat, 1 ≤ m ∧ m ≤ k ∧ d = k - m ∧ fr = ⟨[(7, .slice 448 0 k), (8, iv (m : Int))], [(448, .arr 1 (List.replicate m (iv (a : Int)) ++ List.replicate (k - m) (AV.int .i64 0)))], [], 10000000⟩)
 ·simp -implicitDefEqProofs (maxSteps := 2000000) (disch := first | exact tt_rfl rfl | omega | (simp only [go_sem] <;> omega) | fail) only [go_sem, norm_eq, Ok.some]
  exact ⟨k - 1, 1, by omega, h1, rfl, by rw [List.drop_replicate]; rfl⟩
 rintro d fr ⟨m, hm1, hm2, rfl, rfl⟩
 by_cases hm : m < k
 ·have e1 : (List.replicate m (iv (a : Int)) ++ List.replicate (k - m) (AV.int .i64 0)).length = k := by simp; omega
  have c1 : min (min ((m : Int) - 0).toNat k) ((k : Int) - m).toNat = min m (k - m) := by omega
  repeat (first | apply Wp.seqA | apply Wp.skipS | apply Wp.blockS | ((first | apply Wp.regS | apply Wp.condV | apply Wp.reg | apply Wp.condW | apply fin_ret); simp -implicitDefEqProofs (maxSteps := 2000000) (disch := first | exact tt_rfl rfl | omega | (simp only [go_sem] <;> omega) | fail) only [go_sem, e1, hm, Int.ofNat_lt, c1] <;> try with_reducible rfl) | apply Wp.block | apply Wp.exitS | apply Wp.retS | apply Wp.exit | apply Wp.ret | apply Wp.skip)
  apply block_norm
  apply round_next
  ·simp -implicitDefEqProofs (maxSteps := 2000000) (disch := first | exact tt_rfl rfl | omega | (simp only [go_sem] <;> omega) | fail) only [go_sem, norm_eq, Ok.some]; with_reducible rfl
  refine ⟨k - (m + min m (k - m)), by omega, m + min m (k - m), by omega, by omega, rfl, ?_⟩
  rw [rep_row m k hm2, show ((m + min m (k - m) : Nat) : Int) = (m : Int) + ((min m (k - m) : Nat) : Int) by omega]
 ·obtain rfl : m = k := by omega
  repeat (first | apply Wp.seqA | apply Wp.skipS | apply Wp.blockS | ((first | apply Wp.regS | apply Wp.condV | apply Wp.reg | apply Wp.condW | apply fin_ret); simp -implicitDefEqProofs (maxSteps := 2000000) (disch := first | exact tt_rfl rfl | omega | (simp only [go_sem] <;> omega) | fail) only [go_sem, Int.lt_irrefl] <;> try with_reducible rfl) | apply Wp.block | apply Wp.exitS | apply Wp.retS | apply Wp.exit | apply Wp.ret | apply Wp.skip)
  simp
end Go.Abs
