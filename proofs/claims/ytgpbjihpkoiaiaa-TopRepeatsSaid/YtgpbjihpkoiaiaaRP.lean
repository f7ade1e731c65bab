/-
 Straight ties some times over, by the kernel: Make, and after how many warps they repeat. No condition beyond those that each theorem names.
-/
import Derived.Test.YtgpbjihpkoiaiaaTM
import Derived.Test.YtgpbjihpkoiaiaaU1
import Derived.KernelRfl
set_option linter.all false
namespace Go.Abs
set_option maxRecDepth 100000
set_option maxHeartbeats 4000000
noncomputable def rpOne (hk t : Nat) : Bool := match evalCall F 60 32 [.agg [iv (hk : Int), .list 1 (natsV (strW hk t))]] with
 | some (r, []) => AV.beq r (.tuple [iv (hk : Int), iv 0])
 | _ => false
noncomputable def rpChk (t : Nat) : Bool := (List.range 7).all fun k => mkOne (k + 2) t && rpOne (k + 2) t
theorem rpChk1_ok : rpChk 1 = true := by kernel_rfl
theorem rpChk2_ok : rpChk 2 = true := by kernel_rfl
theorem rpChk3_ok : rpChk 3 = true := by kernel_rfl
theorem rpChk4_ok : rpChk 4 = true := by kernel_rfl
theorem rp_both (hk t : Nat) (h2 : 2 ≤ hk) (h8 : hk ≤ 8) (t1 : 1 ≤ t) (t4 : t ≤ 4) : mkOne hk t = true ∧ rpOne hk t = true := by
 have h : rpChk t = true := by
  have ht : t = 1 ∨ t = 2 ∨ t = 3 ∨ t = 4 := by omega
  rcases ht with rfl | rfl | rfl | rfl
  ·exact rpChk1_ok
  ·exact rpChk2_ok
  ·exact rpChk3_ok
  ·exact rpChk4_ok
 unfold rpChk at h;have h3 := List.all_eq_true.1 h (hk - 2) (by simp; omega)
 rw [show hk - 2 + 2 = hk by omega, Bool.and_eq_true] at h3
 exact h3
theorem Make_many (hk t : Nat) (h2 : 2 ≤ hk) (h8 : hk ≤ 8) (t1 : 1 ≤ t) (t4 : t ≤ 4) : lim F 31 [iv (hk : Int), .list 4 [.agg [iv 0, iv ((hk : Int) - 1), iv 1, iv (t : Int)]]] = some (.tuple [.agg [iv (hk : Int), .own 1 (natsV (strW hk t))], iv 0, iv 0], []) := Make_of (rp_both hk t h2 h8 t1 t4).1
theorem Repeat_many (hk t : Nat) (h2 : 2 ≤ hk) (h8 : hk ≤ 8) (t1 : 1 ≤ t) (t4 : t ≤ 4) : lim F 32 [.agg [iv (hk : Int), .list 1 (natsV (strW hk t))]] = some (.tuple [iv (hk : Int), iv 0], []) := by
 have h4 := (rp_both hk t h2 h8 t1 t4).2;unfold rpOne at h4;split at h4
 ·rename_i r hr
  rw [AV.beq_eq _ _ h4] at hr;exact lim_of_eval hr
 ·cases h4
theorem pubInts_ok (es : List AV) (hp : es.all AV.plain = true) (h : es.length ≤ 1000) : lim F 33 [.list 1 es] = some (.own 1 es, []) := by
 have htk : es.take es.length = es := List.take_of_length_le (by omega)
 refine lim_by (fn := a33) (k := 1) (res := [.tmp 2]) rfl rfl rfl (by simp -implicitDefEqProofs (maxSteps := 2000000) (disch := first | exact tt_rfl rfl | omega | (simp only [go_sem] <;> omega) | fail) only [go_sem]) ?_
 try delta mvA
 try delta opA
 try delta tA
 simp -implicitDefEqProofs (maxSteps := 2000000) (disch := first | exact tt_rfl rfl | omega | (simp only [go_sem] <;> omega) | fail) only [go_sem]
 repeat (first | apply Wp.seqA | apply Wp.skipS | apply Wp.blockS | ((first | apply Wp.regS | apply Wp.condV | apply Wp.reg | apply Wp.condW | apply fin_ret); simp -implicitDefEqProofs (maxSteps := 2000000) (disch := first | exact tt_rfl rfl | omega | (simp only [go_sem] <;> omega) | fail) only [go_sem, htk, hp] <;> try with_reducible rfl) | apply Wp.block | apply Wp.exitS | apply Wp.retS | apply Wp.exit | apply Wp.ret | apply Wp.skip)
end Go.Abs
