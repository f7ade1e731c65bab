/-
 Chapter 1: designs that are made point by point. No condition beyond those that each theorem names.
-/
import Derived.Test.YtkjlmfabhejbnaaDoorV0
import Derived.Test.YtkjlmfabhejbnaaDoorM1
set_option linter.all false
namespace Go.Abs
set_option maxRecDepth 10000
set_option maxHeartbeats 4000000
theorem at_ok (d : DesN) (hd : d.Ok) (p h : Nat) (hp : p ≤ 1000000) (hh : h ≤ 1000000) : lim F 36 [d.av, iv (p : Int), iv (h : Int)] = some (.bool (atN d p h), []) := by
 have h24 := hd.h24;have h1 := hd.h1;have hr1 := hd.r1;have h60 := hd.r60;have p1 : 2 ^ d.hk ≤ 2 ^ 24 := Nat.pow_le_pow_right (by omega) (by omega)
 have hm := Nat.mod_lt p (show 0 < d.rows.length by omega)
 have hm2 := Nat.mod_lt h (show 0 < d.hk by omega)
 have hlt := hd.lt _ (List.getElem_mem hm);rw [← rows_get hm] at hlt;have hg := nats_at hm;have hln : (natsV d.rows).length = d.rows.length := by simp
 have e1 : Int.tmod (p : Int) (d.rows.length : Int) = ((p % d.rows.length : Nat) : Int) := by rw [Int.tmod_eq_emod_of_nonneg (Int.natCast_nonneg _)]; simp
 have e2 : Int.tmod (h : Int) (d.hk : Int) = ((h % d.hk : Nat) : Int) := by rw [Int.tmod_eq_emod_of_nonneg (Int.natCast_nonneg _)]; simp
 unfold DesN.av atN;change lim F _ [.agg [_, .list 1 (natsV d.rows)], _, _] = _;generalize d.rows.getD (p % d.rows.length) 0 = r at *;generalize p % d.rows.length = pm at *;generalize h % d.hk = hmm at *;have s1 := w_shr r hmm (by omega)
 have sb : r >>> hmm < 9223372036854775808 := by rw [Nat.shiftRight_eq_div_pow]; have := Nat.div_le_self r (2 ^ hmm); omega
 have s2 := w_and1 (r >>> hmm) sb;have eb := bit_eq r hmm;generalize r.testBit hmm = b at *;generalize r >>> hmm &&& 1 = y at *;generalize r >>> hmm = z at *;generalize natsV d.rows = rs at *;refine lim_by (fn := a36) (k := 3) (res := [.tmp 6]) rfl rfl rfl (by simp -implicitDefEqProofs (maxSteps := 2000000) (disch := first | exact tt_rfl rfl | omega | (simp only [go_sem] <;> omega) | fail) only [go_sem]) ?_
 try delta mvA
 try delta opA
 try delta tA
 simp -implicitDefEqProofs (maxSteps := 2000000) (disch := first | exact tt_rfl rfl | omega | (simp only [go_sem] <;> omega) | fail) only [go_sem]
 repeat (first | apply Wp.seqA | apply Wp.skipS | apply Wp.blockS | ((first | apply Wp.regS | apply Wp.condV | apply Wp.reg | apply Wp.condW | apply fin_ret); simp -implicitDefEqProofs (maxSteps := 2000000) (disch := first | exact tt_rfl rfl | omega | (simp only [go_sem] <;> omega) | fail) only [go_sem, hln, e1, e2, hg, s1, s2, eb, Int.toNat_natCast, show (d.rows.length : Int) ≠ 0 by omega, show (d.hk : Int) ≠ 0 by omega] <;> try with_reducible rfl) | apply Wp.block | apply Wp.exitS | apply Wp.retS | apply Wp.exit | apply Wp.ret | apply Wp.skip)
def Lr (g : Nat → Nat → Bool) (picks hooks p v : Nat) : List AV := (List.range picks).map fun q => iv ((if q < p then rowTo (g q) hooks else if q = p then v else 0 : Nat) : Int)
theorem Lr_len (g : Nat → Nat → Bool) (picks hooks p v : Nat) : (Lr g picks hooks p v).length = picks := by simp [Lr]
theorem Lr_get {g : Nat → Nat → Bool} {picks hooks p v : Nat} (h : p < picks) : (Lr g picks hooks p v)[p]? = some (iv (v : Int)) := by
 unfold Lr;rw [List.getElem?_map, List.getElem?_range h];simp
theorem Lr_set {g : Nat → Nat → Bool} {picks hooks p v w : Nat} (h : p < picks) : (Lr g picks hooks p v).set p (iv (w : Int)) = Lr g picks hooks p w := by
 apply List.ext_getElem
 ·simp [Lr]
 ·intro i h1 h2
  rw [List.getElem_set];by_cases e : p = i
  ·subst e
   simp [Lr]
  ·rw [if_neg e]
   have e' : ¬ i = p := fun h => e h.symm
   simp [Lr, e']
theorem Lr_next {g : Nat → Nat → Bool} {picks hooks p : Nat} : Lr g picks hooks p (rowTo (g p) hooks) = Lr g picks hooks (p + 1) 0 := by
 unfold Lr;apply List.map_congr_left;intro q _;by_cases h1 : q < p
 ·rw [if_pos h1, if_pos (by omega)]
 ·by_cases h2 : q = p
  ·rw [if_neg h1, if_pos h2, if_pos (by omega), h2]
  ·rw [if_neg h1, if_neg h2, if_neg (by omega)]
   split <;> rfl
theorem Lr_zero (g : Nat → Nat → Bool) (picks hooks : Nat) : Lr g picks hooks 0 0 = List.replicate picks (iv 0) := by
 unfold Lr;apply List.ext_getElem
 ·simp
 ·intro i h1 h2
  simp
def madeN (g : Nat → Nat → Bool) (picks hooks : Nat) : DesN := ⟨hooks, (List.range picks).map fun q => rowTo (g q) hooks⟩
theorem Lr_end (g : Nat → Nat → Bool) (picks hooks : Nat) : Lr g picks hooks picks 0 = (madeN g picks hooks).rows.map fun n : Nat => iv (n : Int) := by
 unfold Lr madeN;rw [List.map_map];apply List.map_congr_left;intro q hq;rw [if_pos (List.mem_range.1 hq)]; rfl
theorem Lr_plain (g : Nat → Nat → Bool) (picks hooks p v : Nat) : (Lr g picks hooks p v).all AV.plain = true := by
 simp [Lr, AV.plain, AV.plain1]
end Go.Abs
