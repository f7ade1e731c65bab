/-
 Chapter 1: points of a design that goes round. No condition beyond those that each theorem names.
-/
import Derived.Test.YtkjlmfabhejbnaaDoorP4
import Derived.Test.YtkjlmfabhejbnaaDoorM5
set_option linter.all false
namespace Go.Abs
set_option maxRecDepth 10000
set_option maxHeartbeats 4000000

/-- a point of a design that goes round -/
def atN (d : DesN) (p h : Nat) : Bool := (d.rows.getD (p % d.rows.length) 0).testBit (h % d.hk)
theorem atN_pick {d : DesN} (hd : d.Ok) {p h : Nat} (hp : p < d.rows.length) : gb (pickR d p) h = atN d p h := by
 unfold gb atN
 have := hd.h1
 have hm := Nat.mod_lt h (show 0 < d.hk by omega)
 rw [pickR_len, List.getD_eq_getElem?_getD, List.getElem?_eq_getElem (by rw [pickR_len]; exact hm), pickR_get hm, Nat.mod_eq_of_lt hp]; rfl
theorem atN_hook {d : DesN} (hd : d.Ok) {p h : Nat} (hh : h < d.hk) : gb (hookR d h) p = atN d p h := by
 unfold gb atN
 have := hd.r1
 have hm := Nat.mod_lt p (show 0 < d.rows.length by omega)
 rw [hookR_len, List.getD_eq_getElem?_getD, List.getElem?_eq_getElem (by rw [hookR_len]; exact hm), hookR_get hm, Nat.mod_eq_of_lt hh]; rfl
theorem atN_mod {d : DesN} {p p' h h' : Nat} (hp : p % d.rows.length = p' % d.rows.length) (hh : h % d.hk = h' % d.hk) : atN d p h = atN d p' h' := by
 unfold atN; rw [hp, hh]
def desV (d : DesN) : AV := .agg [iv (d.hk : Int), .list 1 (natsV d.rows)]
theorem lifted_ok (d : DesN) (hd : d.Ok) (p h : Nat) (hp : p ≤ 1000000) (hh : h ≤ 1000000) : lim F 22 [desV d, iv (p : Int), iv (h : Int)] = some (.bool (atN d p h), []) := by
 have h24 := hd.h24
 have h1 := hd.h1
 have hr1 := hd.r1
 have h60 := hd.r60
 have p1 : 2 ^ d.hk ≤ 2 ^ 24 := Nat.pow_le_pow_right (by omega) (by omega)
 have hm := Nat.mod_lt p (show 0 < d.rows.length by omega)
 have hm2 := Nat.mod_lt h (show 0 < d.hk by omega)
 have hlt := hd.lt _ (List.getElem_mem hm)
 rw [← rows_get hm] at hlt
 have hg := nats_at hm
 have hln : (natsV d.rows).length = d.rows.length := by simp
 have e1 : Int.tmod (p : Int) (d.rows.length : Int) = ((p % d.rows.length : Nat) : Int) := by rw [Int.tmod_eq_emod_of_nonneg (Int.natCast_nonneg _)]; simp
 have e2 : Int.tmod (h : Int) (d.hk : Int) = ((h % d.hk : Nat) : Int) := by rw [Int.tmod_eq_emod_of_nonneg (Int.natCast_nonneg _)]; simp
 unfold desV atN
 generalize d.rows.getD (p % d.rows.length) 0 = r at *
 generalize p % d.rows.length = pm at *
 generalize h % d.hk = hmm at *
 have u1 : IntKind.wrap .u64 (hmm : Int) = hmm := wrap_u64 (by omega) (by omega)
 have s1 := w_shr r hmm (by omega)
 have sb : r >>> hmm < 9223372036854775808 := by rw [Nat.shiftRight_eq_div_pow]; have := Nat.div_le_self r (2 ^ hmm); omega
 have s2 := w_and1 (r >>> hmm) sb
 have eb := bit_eq r hmm
 generalize r.testBit hmm = b at *
 generalize r >>> hmm &&& 1 = y at *
 generalize r >>> hmm = z at *
 generalize natsV d.rows = rs at *
 refine lim_by (fn := a22) (k := 3) (res := [.tmp 6]) rfl rfl rfl (by simp -implicitDefEqProofs (maxSteps := 2000000) (disch := first | exact tt_rfl rfl | omega | (simp only [go_sem] <;> omega) | fail) only [go_sem]) ?_
 simp -implicitDefEqProofs (maxSteps := 2000000) (disch := first | exact tt_rfl rfl | omega | (simp only [go_sem] <;> omega) | fail) only [go_sem]
 repeat (first | apply Wp.seqA | apply Wp.skipS | apply Wp.blockS | ((first | apply Wp.regS | apply Wp.condV | apply Wp.reg | apply Wp.condW | apply fin_ret); simp -implicitDefEqProofs (maxSteps := 2000000) (disch := first | exact tt_rfl rfl | omega | (simp only [go_sem] <;> omega) | fail) only [go_sem, hln, e1, e2, hg, u1, s1, s2, eb, Int.toNat_natCast, show (d.rows.length : Int) ≠ 0 by omega, show (d.hk : Int) ≠ 0 by omega] <;> try with_reducible rfl) | apply Wp.block | apply Wp.exitS | apply Wp.retS | apply Wp.exit | apply Wp.ret | apply Wp.skip)
theorem is_same (hk : Int) (l : List Int) (hl : l.length ≤ 1000) : lim F 23 [.agg [iv hk, .list 1 (l.map fun n => iv n)], .agg [iv hk, .list 1 (l.map fun n => iv n)]] = some (.bool true, []) := by
 refine lim_by (fn := a23) (k := 2) (res := [.tmp 4]) rfl rfl rfl (by simp -implicitDefEqProofs (maxSteps := 2000000) (disch := first | exact tt_rfl rfl | omega | (simp only [go_sem] <;> omega) | fail) only [go_sem]) ?_
 simp -implicitDefEqProofs (maxSteps := 2000000) (disch := first | exact tt_rfl rfl | omega | (simp only [go_sem] <;> omega) | fail) only [go_sem]
 repeat (first | apply Wp.seqA | apply Wp.skipS | apply Wp.blockS | ((first | apply Wp.regS | apply Wp.condV | apply Wp.reg | apply Wp.condW | apply fin_ret); simp -implicitDefEqProofs (maxSteps := 2000000) (disch := first | exact tt_rfl rfl | omega | (simp only [go_sem] <;> omega) | fail) only [go_sem] <;> try with_reducible rfl) | apply Wp.block | apply Wp.exitS | apply Wp.retS | apply Wp.exit | apply Wp.ret | apply Wp.skip)
 apply Wp.loopF l.length (fun i => ⟨[(2, .ptr 128 0 0), (3, .ptr 192 0 0), (5, iv (i : Int))], [(128, .box [iv hk, .list 1 (l.map fun n => iv n)]), (192, .box [iv hk, .list 1 (l.map fun n => iv n)])], [], 10000000⟩) (fun _ => True)
 ·simp -implicitDefEqProofs (maxSteps := 2000000) (disch := first | exact tt_rfl rfl | omega | (simp only [go_sem] <;> omega) | fail) only [go_sem, norm_eq, Ok.some]
  rfl
 ·trivial
 intro i hi _
 by_cases h : i < l.length
 ·repeat (first | apply Wp.seqA | apply Wp.skipS | apply Wp.blockS | ((first | apply Wp.regS | apply Wp.condV | apply Wp.reg | apply Wp.condW | apply fin_ret); simp -implicitDefEqProofs (maxSteps := 2000000) (disch := first | exact tt_rfl rfl | omega | (simp only [go_sem] <;> omega) | fail) only [go_sem, h, Int.ofNat_lt, List.getElem?_map, List.getElem?_eq_getElem h, Option.map_some] <;> try with_reducible rfl) | apply Wp.block | apply Wp.exitS | apply Wp.retS | apply Wp.exit | apply Wp.ret | apply Wp.skip)
  apply round_next
  ·simp -implicitDefEqProofs (maxSteps := 2000000) (disch := first | exact tt_rfl rfl | omega | (simp only [go_sem] <;> omega) | fail) only [go_sem, norm_eq, Ok.some]; with_reducible rfl
  exact ⟨h, by simp, trivial⟩
 ·repeat (first | apply Wp.seqA | apply Wp.skipS | apply Wp.blockS | ((first | apply Wp.regS | apply Wp.condV | apply Wp.reg | apply Wp.condW | apply fin_ret); simp -implicitDefEqProofs (maxSteps := 2000000) (disch := first | exact tt_rfl rfl | omega | (simp only [go_sem] <;> omega) | fail) only [go_sem, h, Int.ofNat_lt] <;> try with_reducible rfl) | apply Wp.block | apply Wp.exitS | apply Wp.retS | apply Wp.exit | apply Wp.ret | apply Wp.skip)
theorem isN_same (d : DesN) (hl : d.rows.length ≤ 1000) : lim F 23 [desV d, desV d] = some (.bool true, []) := by
 have h := is_same d.hk (d.rows.map fun n : Nat => (n : Int)) (by simpa using hl)
 rw [List.map_map] at h
 exact h
theorem right_ok (d : DesN) (hd : d.Ok) : lim F 21 [desV d, iv (d.hk : Int), iv (d.rows.length : Int)] = some (.bool true, []) := by
 have h24 := hd.h24
 have h60 := hd.r60
 have hln : (natsV d.rows).length = d.rows.length := by simp
 have s1 := w_shl1 d.hk (by omega)
 have u1 : IntKind.wrap .u64 (d.hk : Int) = d.hk := wrap_u64 (by omega) (by omega)
 have hg : ∀ i (h : i < d.rows.length), (natsV d.rows)[i]? = some (iv ((d.rows.getD i 0 : Nat) : Int)) := fun i h => nats_at h
 have hB : ∀ i, i < d.rows.length → d.rows.getD i 0 < 2 ^ d.hk := fun i hi => by
  rw [rows_get hi]; exact hd.lt _ (List.getElem_mem hi)
 unfold desV
 generalize natsV d.rows = rs at *
 generalize 2 ^ d.hk = m at *
 refine lim_by (fn := a21) (k := 3) (res := [.tmp 6]) rfl rfl rfl (by simp -implicitDefEqProofs (maxSteps := 2000000) (disch := first | exact tt_rfl rfl | omega | (simp only [go_sem] <;> omega) | fail) only [go_sem]) ?_
 simp -implicitDefEqProofs (maxSteps := 2000000) (disch := first | exact tt_rfl rfl | omega | (simp only [go_sem] <;> omega) | fail) only [go_sem]
 repeat (first | apply Wp.seqA | apply Wp.skipS | apply Wp.blockS | ((first | apply Wp.regS | apply Wp.condV | apply Wp.reg | apply Wp.condW | apply fin_ret); simp -implicitDefEqProofs (maxSteps := 2000000) (disch := first | exact tt_rfl rfl | omega | (simp only [go_sem] <;> omega) | fail) only [go_sem, hln] <;> try with_reducible rfl) | apply Wp.block | apply Wp.exitS | apply Wp.retS | apply Wp.exit | apply Wp.ret | apply Wp.skip)
 apply Wp.loopF d.rows.length (fun i => ⟨[(1, iv (d.hk : Int)), (2, iv (d.rows.length : Int)), (3, .ptr 192 0 0), (7, iv (i : Int))], [(192, .box [iv (d.hk : Int), .list 1 rs])], [], 10000000⟩) (fun _ => True)
 ·simp -implicitDefEqProofs (maxSteps := 2000000) (disch := first | exact tt_rfl rfl | omega | (simp only [go_sem] <;> omega) | fail) only [go_sem, norm_eq, Ok.some]
  rfl
 ·trivial
 intro i hi _
 by_cases h : i < d.rows.length
 ·have h1 := hg i h
  have h2 := hB i h
  generalize d.rows.getD i 0 = v at *
  repeat (first | apply Wp.seqA | apply Wp.skipS | apply Wp.blockS | ((first | apply Wp.regS | apply Wp.condV | apply Wp.reg | apply Wp.condW | apply fin_ret); simp -implicitDefEqProofs (maxSteps := 2000000) (disch := first | exact tt_rfl rfl | omega | (simp only [go_sem] <;> omega) | fail) only [go_sem, h, hln, Int.ofNat_lt, h1, s1, u1, Int.toNat_natCast, show ¬ (v : Int) < 0 by omega, show ¬ (m : Int) ≤ v by omega] <;> try with_reducible rfl) | apply Wp.block | apply Wp.exitS | apply Wp.retS | apply Wp.exit | apply Wp.ret | apply Wp.skip)
  apply round_next
  ·simp -implicitDefEqProofs (maxSteps := 2000000) (disch := first | exact tt_rfl rfl | omega | (simp only [go_sem] <;> omega) | fail) only [go_sem, norm_eq, Ok.some]; with_reducible rfl
  exact ⟨h, by simp, trivial⟩
 ·repeat (first | apply Wp.seqA | apply Wp.skipS | apply Wp.blockS | ((first | apply Wp.regS | apply Wp.condV | apply Wp.reg | apply Wp.condW | apply fin_ret); simp -implicitDefEqProofs (maxSteps := 2000000) (disch := first | exact tt_rfl rfl | omega | (simp only [go_sem] <;> omega) | fail) only [go_sem, h, Int.ofNat_lt] <;> try with_reducible rfl) | apply Wp.block | apply Wp.exitS | apply Wp.retS | apply Wp.exit | apply Wp.ret | apply Wp.skip)
end Go.Abs
