/-
 Chapter 1: how two designs differ. No condition beyond those that each theorem names.
-/
import Derived.Test.YtkjlmfabhejbnaaDoorB6
import Derived.Test.YtkjlmfabhejbnaaDoorM23
import Derived.Test.YtkjlmfabhejbnaaDoorV3
set_option linter.all false
namespace Go.Abs
set_option maxRecDepth 10000
set_option maxHeartbeats 4000000
theorem Differ_ok (a b : DesN) (ha : a.Ok) (hb : b.Ok) (h1 : a.hk = b.hk) (h2 : a.rows.length = b.rows.length) : lim F 9 [desV a, desV b] = some (.tuple [iv (manyT a b a.rows.length : Nat), iv ((firstT a b a.rows.length).1 : Nat), iv ((firstT a b a.rows.length).2 : Nat), iv 0], []) := by
 have h60 := ha.r60;have hc := check_ok [a, b] (by simp) (fun d hd => by
  simp only [List.mem_cons, List.not_mem_nil, or_false] at hd;rcases hd with rfl | rfl
  ·exact ha
  ·exact hb)
 have hl := isLike_ok a b h1 h2 (by have := hb.r60; omega)
 change lim F _ [.list 2 [desV a, desV b]] = _ at hc;have n1 : (natsV a.rows).length = a.rows.length := by simp
 have n2 : (natsV b.rows).length = a.rows.length := by simp [h2]
 have g1 : ∀ i, i < a.rows.length → (natsV a.rows)[i]? = some (iv ((a.rows.getD i 0 : Nat) : Int)) := fun i h => nats_at h
 have g2 : ∀ i, i < a.rows.length → (natsV b.rows)[i]? = some (iv ((b.rows.getD i 0 : Nat) : Int)) := fun i h => nats_at (by omega)
 have hx := fun i (h : i < a.rows.length) => xorAt_lt ha hb h (by omega)
 have hm := manyT_le a b;unfold desV at *;generalize natsV a.rows = ra at *;generalize natsV b.rows = rb at *;refine lim_by (fn := a9) (k := 2) (res := [.tmp 4, .tmp 5, .tmp 6, .tmp 7]) rfl rfl rfl (by simp -implicitDefEqProofs (maxSteps := 2000000) (disch := first | exact tt_rfl rfl | omega | (simp only [go_sem] <;> omega) | fail) only [go_sem]) ?_
 try delta mvA
 try delta opA
 try delta tA
 simp -implicitDefEqProofs (maxSteps := 2000000) (disch := first | exact tt_rfl rfl | omega | (simp only [go_sem] <;> omega) | fail) only [go_sem]
 repeat (first | apply Wp.seqA | apply Wp.skipS | apply Wp.blockS | ((first | apply Wp.regS | apply Wp.condV | apply Wp.reg | apply Wp.condW | apply fin_ret); simp -implicitDefEqProofs (maxSteps := 2000000) (disch := first | exact tt_rfl rfl | omega | (simp only [go_sem] <;> omega) | fail) only [go_sem, hc, hl, n1, n2] <;> try with_reducible rfl) | apply Wp.block | apply Wp.exitS | apply Wp.retS | apply Wp.exit | apply Wp.ret | apply Wp.skip)
 apply Wp.loopF a.rows.length (fun i => ⟨[(3, .ptr 192 0 0), (4, iv (manyT a b i : Nat)), (5, iv ((firstT a b i).1 : Nat)), (6, iv ((firstT a b i).2 : Nat)), (26, .list 1 ra), (27, iv (a.rows.length : Int)), (28, iv (i : Int))], [(192, .box [iv (b.hk : Int), .list 1 rb])], [], 10000000⟩) (fun _ => True)
 ·simp -implicitDefEqProofs (maxSteps := 2000000) (disch := first | exact tt_rfl rfl | omega | (simp only [go_sem] <;> omega) | fail) only [go_sem, norm_eq, Ok.some]
  rfl
 ·trivial
 intro i hi _;by_cases h : i < a.rows.length
 ·have a1 := g1 i h
  have a2 := g2 i h;have hlt := hx i h;have hmi := hm i;have hA : a.rows.getD i 0 < 2 ^ 24 := by
   have := ha.lt _ (List.getElem_mem h);have p1 : 2 ^ a.hk ≤ 2 ^ 24 := Nat.pow_le_pow_right (by omega) ha.h24
   rw [rows_get h]; omega
  have hB : b.rows.getD i 0 < 2 ^ 24 := by
   have h' : i < b.rows.length := by omega
   have := hb.lt _ (List.getElem_mem h');have p1 : 2 ^ b.hk ≤ 2 ^ 24 := Nat.pow_le_pow_right (by omega) hb.h24
   rw [rows_get h']; omega
  have w := w_xor (a.rows.getD i 0) (b.rows.getD i 0) (by omega) (by omega)
  have e1 : manyT a b (i + 1) = manyT a b i + bitsN (xorAt a b i) 24 := rfl;have e2 : firstT a b (i + 1) = if manyT a b i = 0 ∧ xorAt a b i ≠ 0 then (i, lowN (xorAt a b i)) else firstT a b i := rfl
  have hxe : a.rows.getD i 0 ^^^ b.rows.getD i 0 = xorAt a b i := rfl;rw [hxe] at w;have hbl := bitsN_le (xorAt a b i) 24;have oc := OnesCount_ok (xorAt a b i) hlt;have u1 : IntKind.wrap .u64 (xorAt a b i : Int) = xorAt a b i := wu_nat (by omega)
  have hlow := fun h => lowN_is (x := xorAt a b i) h
  have tz := fun h => TrailingZeros_ok (xorAt a b i) _ hlt (hlow h)
  rw [e1, e2];have es : ∀ n : Nat, (manyT a b i : Int) + (n : Int) = ((manyT a b i + n : Nat) : Int) := fun n => by omega
  generalize lowN (xorAt a b i) = lo at *;generalize bitsN (xorAt a b i) 24 = bn at *;generalize xorAt a b i = xx at *;generalize a.rows.getD i 0 = v1 at *;generalize b.rows.getD i 0 = v2 at *;generalize manyT a b i = mm at *;generalize firstT a b i = ff at *;by_cases hc1 : mm = 0
  ·by_cases hc2 : xx = 0
   ·rw [if_neg (by simp [hc2])]
    repeat (first | apply Wp.seqA | apply Wp.skipS | apply Wp.blockS | ((first | apply Wp.regS | apply Wp.condV | apply Wp.reg | apply Wp.condW | apply fin_ret); simp -implicitDefEqProofs (maxSteps := 2000000) (disch := first | exact tt_rfl rfl | omega | (simp only [go_sem] <;> omega) | fail) only [go_sem, h, Int.ofNat_lt, a1, a2, n1, n2, w, u1, oc, es, show ((mm : Int) = 0) = True from eq_true (by omega), show ((xx : Int) = 0) = True from eq_true (by omega)] <;> try with_reducible rfl) | apply Wp.block | apply Wp.exitS | apply Wp.retS | apply Wp.exit | apply Wp.ret | apply Wp.skip)
    apply round_next
    ·simp -implicitDefEqProofs (maxSteps := 2000000) (disch := first | exact tt_rfl rfl | omega | (simp only [go_sem] <;> omega) | fail) only [go_sem, norm_eq, Ok.some]; with_reducible rfl
    exact ⟨h, by simp, trivial⟩
   ·rw [if_pos ⟨hc1, hc2⟩]
    have tz := tz hc2;repeat (first | apply Wp.seqA | apply Wp.skipS | apply Wp.blockS | ((first | apply Wp.regS | apply Wp.condV | apply Wp.reg | apply Wp.condW | apply fin_ret); simp -implicitDefEqProofs (maxSteps := 2000000) (disch := first | exact tt_rfl rfl | omega | (simp only [go_sem] <;> omega) | fail) only [go_sem, h, Int.ofNat_lt, a1, a2, n1, n2, w, u1, oc, tz, es, show ((mm : Int) = 0) = True from eq_true (by omega), show ¬ (xx : Int) = 0 by omega] <;> try with_reducible rfl) | apply Wp.block | apply Wp.exitS | apply Wp.retS | apply Wp.exit | apply Wp.ret | apply Wp.skip)
    apply round_next
    ·simp -implicitDefEqProofs (maxSteps := 2000000) (disch := first | exact tt_rfl rfl | omega | (simp only [go_sem] <;> omega) | fail) only [go_sem, norm_eq, Ok.some]; with_reducible rfl
    exact ⟨h, by simp, trivial⟩
  ·rw [if_neg (by simp [hc1])]
   repeat (first | apply Wp.seqA | apply Wp.skipS | apply Wp.blockS | ((first | apply Wp.regS | apply Wp.condV | apply Wp.reg | apply Wp.condW | apply fin_ret); simp -implicitDefEqProofs (maxSteps := 2000000) (disch := first | exact tt_rfl rfl | omega | (simp only [go_sem] <;> omega) | fail) only [go_sem, h, Int.ofNat_lt, a1, a2, n1, n2, w, u1, oc, es, show ¬ (mm : Int) = 0 by omega] <;> try with_reducible rfl) | apply Wp.block | apply Wp.exitS | apply Wp.retS | apply Wp.exit | apply Wp.ret | apply Wp.skip)
   apply round_next
   ·simp -implicitDefEqProofs (maxSteps := 2000000) (disch := first | exact tt_rfl rfl | omega | (simp only [go_sem] <;> omega) | fail) only [go_sem, norm_eq, Ok.some]; with_reducible rfl
   exact ⟨h, by simp, trivial⟩
 ·obtain rfl : i = a.rows.length := by omega
  repeat (first | apply Wp.seqA | apply Wp.skipS | apply Wp.blockS | ((first | apply Wp.regS | apply Wp.condV | apply Wp.reg | apply Wp.condW | apply fin_ret); simp -implicitDefEqProofs (maxSteps := 2000000) (disch := first | exact tt_rfl rfl | omega | (simp only [go_sem] <;> omega) | fail) only [go_sem, Int.lt_irrefl] <;> try with_reducible rfl) | apply Wp.block | apply Wp.exitS | apply Wp.retS | apply Wp.exit | apply Wp.ret | apply Wp.skip)
end Go.Abs
