/-
 Chapter 1: bound designs, and changes, point by point. No condition beyond those that each theorem names.
-/
import Derived.Test.YtkjlmfabhejbnaaV0
import Derived.Test.YtkjlmfabhejbnaaM13
set_option linter.all false
namespace Go.Abs
set_option maxRecDepth 10000
set_option maxHeartbeats 4000000

/-- no float along a pick is longer than a number -/
noncomputable def boundT (d : DesN) (b : Nat) : Bool := @decide (∀ i, i < d.rows.length → BD (pickR d i) b) (Classical.propDecidable _)
theorem boundT_iff {d : DesN} {b : Nat} : boundT d b = true ↔ ∀ i, i < d.rows.length → BD (pickR d i) b := by
 unfold boundT; exact @decide_eq_true_iff _ (Classical.propDecidable _)
theorem boundT_no {d : DesN} {b i : Nat} (hi : i < d.rows.length) (h : ¬ BD (pickR d i) b) : boundT d b = false := by
 cases hq : boundT d b with
 | false => rfl
 | true => exact absurd (boundT_iff.1 hq i hi) h
theorem bound_ok (d : DesN) (hd : d.Ok) (b : Nat) : lim F 38 [desV d, iv (b : Int)] = some (.bool (boundT d b), []) := by
 have h24 := hd.h24
 have h1 := hd.h1
 have h60 := hd.r60
 have li := fun p h hp hh => lifted_ok d hd p h hp hh
 have hln : (natsV d.rows).length = d.rows.length := by simp
 have hat : ∀ i h, i < d.rows.length → atN d i h = gb (pickR d i) h := fun i h hi => (atN_pick hd hi).symm
 have hpl : ∀ i, (pickR d i).length = d.hk := pickR_len d
 have hyes : (∀ i, i < d.rows.length → BD (pickR d i) b) → boundT d b = true := boundT_iff.2
 have hnot : ∀ i, i < d.rows.length → ¬ BD (pickR d i) b → boundT d b = false := fun i hi h => boundT_no hi h
 unfold desV at *
 generalize natsV d.rows = rs at *
 generalize boundT d b = res at *
 refine lim_by (fn := a38) (k := 2) (res := [.tmp 4]) rfl rfl rfl (by simp -implicitDefEqProofs (maxSteps := 2000000) (disch := first | exact tt_rfl rfl | omega | (simp only [go_sem] <;> omega) | fail) only [go_sem]) ?_
 simp -implicitDefEqProofs (maxSteps := 2000000) (disch := first | exact tt_rfl rfl | omega | (simp only [go_sem] <;> omega) | fail) only [go_sem]
 repeat (first | apply Wp.seqA | apply Wp.skipS | apply Wp.blockS | ((first | apply Wp.regS | apply Wp.condV | apply Wp.reg | apply Wp.condW | apply fin_ret); simp -implicitDefEqProofs (maxSteps := 2000000) (disch := first | exact tt_rfl rfl | omega | (simp only [go_sem] <;> omega) | fail) only [go_sem] <;> try with_reducible rfl) | apply Wp.block | apply Wp.exitS | apply Wp.retS | apply Wp.exit | apply Wp.ret | apply Wp.skip)
 apply Wp.loopF d.rows.length (fun i => ⟨[(1, iv (b : Int)), (2, .ptr 128 0 0), (5, iv (i : Int))], [(128, .box [iv (d.hk : Int), .list 1 rs])], [], 10000000⟩) (fun i => ∀ j, j < i → BD (pickR d j) b)
 ·simp -implicitDefEqProofs (maxSteps := 2000000) (disch := first | exact tt_rfl rfl | omega | (simp only [go_sem] <;> omega) | fail) only [go_sem, norm_eq, Ok.some]
  rfl
 ·intro j hj; omega
 intro i hi hP
 by_cases h : i < d.rows.length
 ·have hat' := fun h' => hat i h' h
  have hpi := hpl i
  have hnoti := hnot i h
  have hg0 : ∀ i' j', i' % (pickR d i).length = j' % (pickR d i).length → gb (pickR d i) i' = gb (pickR d i) j' := fun _ _ h => gb_congr h
  generalize hlq : pickR d i = l at *
  repeat (first | apply Wp.seqA | apply Wp.skipS | apply Wp.blockS | ((first | apply Wp.regS | apply Wp.condV | apply Wp.reg | apply Wp.condW | apply fin_ret); simp -implicitDefEqProofs (maxSteps := 2000000) (disch := first | exact tt_rfl rfl | omega | (simp only [go_sem] <;> omega) | fail) only [go_sem, h, hln, Int.ofNat_lt] <;> try with_reducible rfl) | apply Wp.block | apply Wp.exitS | apply Wp.retS | apply Wp.exit | apply Wp.ret | apply Wp.skip)
  apply Wp.loopF d.hk (fun k => ⟨[(1, iv (b : Int)), (2, .ptr 128 0 0), (5, iv (i : Int)), (6, iv (k : Int))], [(128, .box [iv (d.hk : Int), .list 1 rs])], [], 10000000⟩) (fun k => ∀ q, q < k → ∃ m, m ≤ b ∧ gb l (q + m) ≠ gb l q)
  ·simp -implicitDefEqProofs (maxSteps := 2000000) (disch := first | exact tt_rfl rfl | omega | (simp only [go_sem] <;> omega) | fail) only [go_sem, norm_eq, Ok.some]
   rfl
  ·intro j hj; omega
  intro k hk hQ
  by_cases h' : k < d.hk
  ·repeat (first | apply Wp.seqA | apply Wp.skipS | apply Wp.blockS | ((first | apply Wp.regS | apply Wp.condV | apply Wp.reg | apply Wp.condW | apply fin_ret); simp -implicitDefEqProofs (maxSteps := 2000000) (disch := first | exact tt_rfl rfl | omega | (simp only [go_sem] <;> omega) | fail) only [go_sem, h', Int.ofNat_lt] <;> try with_reducible rfl) | apply Wp.block | apply Wp.exitS | apply Wp.retS | apply Wp.exit | apply Wp.ret | apply Wp.skip)
   apply Wp.loopF d.hk (fun n => ⟨[(1, iv (b : Int)), (2, .ptr 128 0 0), (5, iv (i : Int)), (6, iv (k : Int)), (7, iv ((n : Int) + 1))], [(128, .box [iv (d.hk : Int), .list 1 rs])], [], 10000000⟩) (fun n => ∀ j, j ≤ n → gb l (k + j) = gb l k)
   ·simp -implicitDefEqProofs (maxSteps := 2000000) (disch := first | exact tt_rfl rfl | omega | (simp only [go_sem] <;> omega) | fail) only [go_sem, norm_eq, Ok.some]
    rfl
   ·intro j hj
    obtain rfl : j = 0 := by omega
    rfl
   intro n hn hR
   by_cases hnH : n < d.hk
   ·have x1 := li i (k + (n + 1)) (by omega) (by omega)
    have x2 := li i k (by omega) (by omega)
    rw [hat'] at x1 x2
    have e1 : ((k + (n + 1) : Nat) : Int) = (k : Int) + ((n : Int) + 1) := by omega
    rw [e1] at x1
    by_cases heq : gb l (k + (n + 1)) = gb l k
    ·rw [heq] at x1
     have hR' : ∀ j, j ≤ n + 1 → gb l (k + j) = gb l k := fun j hj => by
      rcases Nat.lt_or_ge j (n + 1) with h2 | h2
      ·exact hR j (by omega)
      ·obtain rfl : j = n + 1 := by omega
       exact heq
     generalize gb l k = v at *
     repeat (first | apply Wp.seqA | apply Wp.skipS | apply Wp.blockS | ((first | apply Wp.regS | apply Wp.condV | apply Wp.reg | apply Wp.condW | apply fin_ret); simp -implicitDefEqProofs (maxSteps := 2000000) (disch := first | exact tt_rfl rfl | omega | (simp only [go_sem] <;> omega) | fail) only [go_sem, x1, x2, hln, show (n : Int) + 1 ≤ (d.hk : Int) by omega, beq_self_eq_true] <;> try with_reducible rfl) | apply Wp.block | apply Wp.exitS | apply Wp.retS | apply Wp.exit | apply Wp.ret | apply Wp.skip)
     apply block_norm
     apply round_next
     ·simp -implicitDefEqProofs (maxSteps := 2000000) (disch := first | exact tt_rfl rfl | omega | (simp only [go_sem] <;> omega) | fail) only [go_sem, norm_eq, Ok.some]; with_reducible rfl
     refine ⟨hnH, ?_, hR'⟩
     simp
    ·have hne : gb l (k + (n + 1)) = !gb l k := by
      cases h3 : gb l (k + (n + 1)) <;> cases h4 : gb l k <;> simp_all
     rw [hne] at x1
     by_cases hb : (n + 1) ≤ b
     ·have hQ' : ∀ q, q < k + 1 → ∃ m, m ≤ b ∧ gb l (q + m) ≠ gb l q := fun q hq => by
       rcases Nat.lt_or_ge q k with h2 | h2
       ·exact hQ q h2
       ·obtain rfl : q = k := by omega
        exact ⟨n + 1, hb, heq⟩
      clear hR heq hne hg0 hnoti
      generalize gb l k = v at *
      cases v
      all_goals
       repeat (first | apply Wp.seqA | apply Wp.skipS | apply Wp.blockS | ((first | apply Wp.regS | apply Wp.condV | apply Wp.reg | apply Wp.condW | apply fin_ret); simp -implicitDefEqProofs (maxSteps := 2000000) (disch := first | exact tt_rfl rfl | omega | (simp only [go_sem] <;> omega) | fail) only [go_sem, x1, x2, hln, show (n : Int) + 1 ≤ (d.hk : Int) by omega, show ¬ (b : Int) < (n : Int) + 1 by omega, show ¬ (d.hk : Int) < (n : Int) + 1 by omega, Bool.not_false, Bool.not_true, show (false == true) = false from rfl, show (true == false) = false from rfl] <;> try with_reducible rfl) | apply Wp.block | apply Wp.exitS | apply Wp.retS | apply Wp.exit | apply Wp.ret | apply Wp.skip)
       apply round_next
       ·simp -implicitDefEqProofs (maxSteps := 2000000) (disch := first | exact tt_rfl rfl | omega | (simp only [go_sem] <;> omega) | fail) only [go_sem, norm_eq, Ok.some]; with_reducible rfl
       exact ⟨h', by simp, hQ'⟩
     ·have hno := hnoti fun hB => by
       obtain ⟨m, hm, hne'⟩ := hB k
       exact hne' (hR m (by omega))
      rw [hno]
      clear hR heq hne hg0 hnoti
      generalize gb l k = v at *
      cases v
      all_goals
       repeat (first | apply Wp.seqA | apply Wp.skipS | apply Wp.blockS | ((first | apply Wp.regS | apply Wp.condV | apply Wp.reg | apply Wp.condW | apply fin_ret); simp -implicitDefEqProofs (maxSteps := 2000000) (disch := first | exact tt_rfl rfl | omega | (simp only [go_sem] <;> omega) | fail) only [go_sem, x1, x2, hln, show (n : Int) + 1 ≤ (d.hk : Int) by omega, show (b : Int) < (n : Int) + 1 by omega, Bool.not_false, Bool.not_true, show (false == true) = false from rfl, show (true == false) = false from rfl] <;> try with_reducible rfl) | apply Wp.block | apply Wp.exitS | apply Wp.retS | apply Wp.exit | apply Wp.ret | apply Wp.skip)
   ·obtain rfl : n = d.hk := by omega
    have hno := hnoti fun hB => by
     obtain ⟨m, hm, hne'⟩ := hB k
     apply hne'
     have e := hg0 (k + m) (k + m % d.hk) (by rw [hpi, Nat.add_mod_mod])
     rw [e]
     exact hR _ (by have := Nat.mod_lt m (show 0 < d.hk by omega); omega)
    rw [hno]
    by_cases hb : d.hk + 1 ≤ b
    ·repeat (first | apply Wp.seqA | apply Wp.skipS | apply Wp.blockS | ((first | apply Wp.regS | apply Wp.condV | apply Wp.reg | apply Wp.condW | apply fin_ret); simp -implicitDefEqProofs (maxSteps := 2000000) (disch := first | exact tt_rfl rfl | omega | (simp only [go_sem] <;> omega) | fail) only [go_sem, show ¬ (d.hk : Int) + 1 ≤ (d.hk : Int) by omega, show ¬ (b : Int) < (d.hk : Int) + 1 by omega, show (d.hk : Int) < (d.hk : Int) + 1 by omega] <;> try with_reducible rfl) | apply Wp.block | apply Wp.exitS | apply Wp.retS | apply Wp.exit | apply Wp.ret | apply Wp.skip)
    ·repeat (first | apply Wp.seqA | apply Wp.skipS | apply Wp.blockS | ((first | apply Wp.regS | apply Wp.condV | apply Wp.reg | apply Wp.condW | apply fin_ret); simp -implicitDefEqProofs (maxSteps := 2000000) (disch := first | exact tt_rfl rfl | omega | (simp only [go_sem] <;> omega) | fail) only [go_sem, show ¬ (d.hk : Int) + 1 ≤ (d.hk : Int) by omega, show (b : Int) < (d.hk : Int) + 1 by omega] <;> try with_reducible rfl) | apply Wp.block | apply Wp.exitS | apply Wp.retS | apply Wp.exit | apply Wp.ret | apply Wp.skip)
  ·obtain rfl : k = d.hk := by omega
   repeat (first | apply Wp.seqA | apply Wp.skipS | apply Wp.blockS | ((first | apply Wp.regS | apply Wp.condV | apply Wp.reg | apply Wp.condW | apply fin_ret); simp -implicitDefEqProofs (maxSteps := 2000000) (disch := first | exact tt_rfl rfl | omega | (simp only [go_sem] <;> omega) | fail) only [go_sem, Int.lt_irrefl] <;> try with_reducible rfl) | apply Wp.block | apply Wp.exitS | apply Wp.retS | apply Wp.exit | apply Wp.ret | apply Wp.skip)
   apply round_next
   ·simp -implicitDefEqProofs (maxSteps := 2000000) (disch := first | exact tt_rfl rfl | omega | (simp only [go_sem] <;> omega) | fail) only [go_sem, norm_eq, Ok.some]; with_reducible rfl
   refine ⟨h, by simp, fun j hj => ?_⟩
   rcases Nat.lt_or_ge j i with h2 | h2
   ·exact hP j h2
   ·obtain rfl : j = i := by omega
    rw [hlq]
    refine BD_mod (by omega) fun q hq => hQ q (by omega)
 ·obtain rfl : i = d.rows.length := by omega
  rw [hyes fun j hj => hP j hj]
  repeat (first | apply Wp.seqA | apply Wp.skipS | apply Wp.blockS | ((first | apply Wp.regS | apply Wp.condV | apply Wp.reg | apply Wp.condW | apply fin_ret); simp -implicitDefEqProofs (maxSteps := 2000000) (disch := first | exact tt_rfl rfl | omega | (simp only [go_sem] <;> omega) | fail) only [go_sem, Int.lt_irrefl, hln] <;> try with_reducible rfl) | apply Wp.block | apply Wp.exitS | apply Wp.retS | apply Wp.exit | apply Wp.ret | apply Wp.skip)

/-- changes of a pick, and of the first so many picks -/
def chgR (a b : DesN) (i : Nat) : Nat := cntN (fun h => atN a i h != atN b i h) a.hk
def chgS (a b : DesN) : Nat → Nat
 | 0 => 0
 | i + 1 => chgS a b i + chgR a b i
theorem chgR_le (a b : DesN) (i : Nat) : chgR a b i ≤ a.hk := cntN_le _ _
theorem chgS_le (a b : DesN) (n : Nat) : chgS a b n ≤ n * a.hk := by
 induction n with
 | zero => simp [chgS]
 | succ n ih =>
  have := chgR_le a b n
  unfold chgS
  rw [Nat.succ_mul]; omega
theorem changesAll_ok (a b : DesN) (ha : a.Ok) (hb : b.Ok) : lim F 40 [desV a, desV b, iv (-1)] = some (iv ((chgS a b a.rows.length : Nat) : Int), []) := by
 have h24 := ha.h24
 have h60 := ha.r60
 have li1 := fun p h hp hh => lifted_ok a ha p h hp hh
 have li2 := fun p h hp hh => lifted_ok b hb p h hp hh
 have hln : (natsV a.rows).length = a.rows.length := by simp
 have hS := chgS_le a b
 have hss : ∀ i, chgS a b (i + 1) = chgS a b i + chgR a b i := fun _ => rfl
 unfold desV at *
 generalize natsV a.rows = ra at *
 generalize natsV b.rows = rb at *
 refine lim_by (fn := a40) (k := 3) (res := [.tmp 6]) rfl rfl rfl (by simp -implicitDefEqProofs (maxSteps := 2000000) (disch := first | exact tt_rfl rfl | omega | (simp only [go_sem] <;> omega) | fail) only [go_sem]) ?_
 simp -implicitDefEqProofs (maxSteps := 2000000) (disch := first | exact tt_rfl rfl | omega | (simp only [go_sem] <;> omega) | fail) only [go_sem]
 repeat (first | apply Wp.seqA | apply Wp.skipS | apply Wp.blockS | ((first | apply Wp.regS | apply Wp.condV | apply Wp.reg | apply Wp.condW | apply fin_ret); simp -implicitDefEqProofs (maxSteps := 2000000) (disch := first | exact tt_rfl rfl | omega | (simp only [go_sem] <;> omega) | fail) only [go_sem] <;> try with_reducible rfl) | apply Wp.block | apply Wp.exitS | apply Wp.retS | apply Wp.exit | apply Wp.ret | apply Wp.skip)
 apply Wp.loopF a.rows.length (fun i => ⟨[(2, iv (-1)), (3, .ptr 192 0 0), (4, .ptr 256 0 0), (7, iv ((chgS a b i : Nat) : Int)), (8, iv (i : Int))], [(192, .box [iv (a.hk : Int), .list 1 ra]), (256, .box [iv (b.hk : Int), .list 1 rb])], [], 10000000⟩) (fun _ => True)
 ·simp -implicitDefEqProofs (maxSteps := 2000000) (disch := first | exact tt_rfl rfl | omega | (simp only [go_sem] <;> omega) | fail) only [go_sem, norm_eq, Ok.some]
  rfl
 ·trivial
 intro i hi _
 have hSi := hS i
 have hmi : i * a.hk ≤ 60 * 24 := Nat.mul_le_mul (by omega) h24
 by_cases h : i < a.rows.length
 ·have hsi := hss i
  have hcr : chgR a b i = cntN (fun h => atN a i h != atN b i h) a.hk := rfl
  rw [hcr] at hsi
  generalize chgS a b (i + 1) = s1 at *
  generalize chgS a b i = s0 at *
  repeat (first | apply Wp.seqA | apply Wp.skipS | apply Wp.blockS | ((first | apply Wp.regS | apply Wp.condV | apply Wp.reg | apply Wp.condW | apply fin_ret); simp -implicitDefEqProofs (maxSteps := 2000000) (disch := first | exact tt_rfl rfl | omega | (simp only [go_sem] <;> omega) | fail) only [go_sem, h, hln, Int.ofNat_lt] <;> try with_reducible rfl) | apply Wp.block | apply Wp.exitS | apply Wp.retS | apply Wp.exit | apply Wp.ret | apply Wp.skip)
  apply Wp.loopF a.hk (fun k => ⟨[(2, iv (-1)), (3, .ptr 192 0 0), (4, .ptr 256 0 0), (7, iv ((s0 : Int) + ((cntN (fun h => atN a i h != atN b i h) k : Nat) : Int))), (8, iv (i : Int)), (9, iv (k : Int))], [(192, .box [iv (a.hk : Int), .list 1 ra]), (256, .box [iv (b.hk : Int), .list 1 rb])], [], 10000000⟩) (fun _ => True)
  ·simp -implicitDefEqProofs (maxSteps := 2000000) (disch := first | exact tt_rfl rfl | omega | (simp only [go_sem] <;> omega) | fail) only [go_sem, norm_eq, Ok.some]
   simp [cntN]
  ·trivial
  intro k hk _
  by_cases h' : k < a.hk
  ·have x1 := li1 i k (by omega) (by omega)
   have x2 := li2 i k (by omega) (by omega)
   have hc := cntN_succ (fun h => atN a i h != atN b i h) k
   have hcl := cntN_le (fun h => atN a i h != atN b i h) k
   generalize cntN (fun h => atN a i h != atN b i h) (k + 1) = c1 at *
   generalize cntN (fun h => atN a i h != atN b i h) k = c0 at *
   generalize atN a i k = v1 at *
   generalize atN b i k = v2 at *
   cases v1 <;> cases v2
   all_goals
    repeat (first | apply Wp.seqA | apply Wp.skipS | apply Wp.blockS | ((first | apply Wp.regS | apply Wp.condV | apply Wp.reg | apply Wp.condW | apply fin_ret); simp -implicitDefEqProofs (maxSteps := 2000000) (disch := first | exact tt_rfl rfl | omega | (simp only [go_sem] <;> omega) | fail) only [go_sem, h', Int.ofNat_lt, x1, x2, show (false == true) = false from rfl, show (true == false) = false from rfl, bne_self_eq_false, show (false != true) = true from rfl, show (true != false) = true from rfl, beq_self_eq_true] <;> try with_reducible rfl) | apply Wp.block | apply Wp.exitS | apply Wp.retS | apply Wp.exit | apply Wp.ret | apply Wp.skip)
    apply round_next
    ·simp -implicitDefEqProofs (maxSteps := 2000000) (disch := first | exact tt_rfl rfl | omega | (simp only [go_sem] <;> omega) | fail) only [go_sem, norm_eq, Ok.some]; with_reducible rfl
    refine ⟨h', ?_, trivial⟩
    rw [hc]
    simp
   all_goals omega
  ·obtain rfl : k = a.hk := by omega
   repeat (first | apply Wp.seqA | apply Wp.skipS | apply Wp.blockS | ((first | apply Wp.regS | apply Wp.condV | apply Wp.reg | apply Wp.condW | apply fin_ret); simp -implicitDefEqProofs (maxSteps := 2000000) (disch := first | exact tt_rfl rfl | omega | (simp only [go_sem] <;> omega) | fail) only [go_sem, Int.lt_irrefl] <;> try with_reducible rfl) | apply Wp.block | apply Wp.exitS | apply Wp.retS | apply Wp.exit | apply Wp.ret | apply Wp.skip)
   apply round_next
   ·simp -implicitDefEqProofs (maxSteps := 2000000) (disch := first | exact tt_rfl rfl | omega | (simp only [go_sem] <;> omega) | fail) only [go_sem, norm_eq, Ok.some]; with_reducible rfl
   refine ⟨h, ?_, trivial⟩
   rw [hsi]
   simp
 ·obtain rfl : i = a.rows.length := by omega
  generalize chgS a b a.rows.length = s0 at *
  repeat (first | apply Wp.seqA | apply Wp.skipS | apply Wp.blockS | ((first | apply Wp.regS | apply Wp.condV | apply Wp.reg | apply Wp.condW | apply fin_ret); simp -implicitDefEqProofs (maxSteps := 2000000) (disch := first | exact tt_rfl rfl | omega | (simp only [go_sem] <;> omega) | fail) only [go_sem, Int.lt_irrefl, hln] <;> try with_reducible rfl) | apply Wp.block | apply Wp.exitS | apply Wp.retS | apply Wp.exit | apply Wp.ret | apply Wp.skip)
theorem changesOne_ok (a b : DesN) (ha : a.Ok) (hb : b.Ok) (p : Nat) (hp : p < a.rows.length) : lim F 40 [desV a, desV b, iv (p : Int)] = some (iv ((chgR a b p : Nat) : Int), []) := by
 have h24 := ha.h24
 have h60 := ha.r60
 have h1 := ha.h1
 have li1 := fun p h hp hh => lifted_ok a ha p h hp hh
 have li2 := fun p h hp hh => lifted_ok b hb p h hp hh
 have hln : (natsV a.rows).length = a.rows.length := by simp
 have hcp : chgR a b p = cntN (fun h => atN a p h != atN b p h) a.hk := rfl
 unfold desV at *
 generalize natsV a.rows = ra at *
 generalize natsV b.rows = rb at *
 refine lim_by (fn := a40) (k := 3) (res := [.tmp 6]) rfl rfl rfl (by simp -implicitDefEqProofs (maxSteps := 2000000) (disch := first | exact tt_rfl rfl | omega | (simp only [go_sem] <;> omega) | fail) only [go_sem]) ?_
 simp -implicitDefEqProofs (maxSteps := 2000000) (disch := first | exact tt_rfl rfl | omega | (simp only [go_sem] <;> omega) | fail) only [go_sem]
 repeat (first | apply Wp.seqA | apply Wp.skipS | apply Wp.blockS | ((first | apply Wp.regS | apply Wp.condV | apply Wp.reg | apply Wp.condW | apply fin_ret); simp -implicitDefEqProofs (maxSteps := 2000000) (disch := first | exact tt_rfl rfl | omega | (simp only [go_sem] <;> omega) | fail) only [go_sem] <;> try with_reducible rfl) | apply Wp.block | apply Wp.exitS | apply Wp.retS | apply Wp.exit | apply Wp.ret | apply Wp.skip)
 apply Wp.loopF a.rows.length (fun i => ⟨[(2, iv (p : Int)), (3, .ptr 192 0 0), (4, .ptr 256 0 0), (7, iv ((if p < i then chgR a b p else 0 : Nat) : Int)), (8, iv (i : Int))], [(192, .box [iv (a.hk : Int), .list 1 ra]), (256, .box [iv (b.hk : Int), .list 1 rb])], [], 10000000⟩) (fun _ => True)
 ·simp -implicitDefEqProofs (maxSteps := 2000000) (disch := first | exact tt_rfl rfl | omega | (simp only [go_sem] <;> omega) | fail) only [go_sem, norm_eq, Ok.some]
  rfl
 ·trivial
 intro i hi _
 by_cases h : i < a.rows.length
 ·by_cases hip : i = p
  ·subst hip
   rw [if_neg (Nat.lt_irrefl i), if_pos (Nat.lt_succ_self i)]
   rw [hcp]
   repeat (first | apply Wp.seqA | apply Wp.skipS | apply Wp.blockS | ((first | apply Wp.regS | apply Wp.condV | apply Wp.reg | apply Wp.condW | apply fin_ret); simp -implicitDefEqProofs (maxSteps := 2000000) (disch := first | exact tt_rfl rfl | omega | (simp only [go_sem] <;> omega) | fail) only [go_sem, h, hln, Int.ofNat_lt, Int.natCast_zero] <;> try with_reducible rfl) | apply Wp.block | apply Wp.exitS | apply Wp.retS | apply Wp.exit | apply Wp.ret | apply Wp.skip)
   apply Wp.loopF a.hk (fun k => ⟨[(2, iv (i : Int)), (3, .ptr 192 0 0), (4, .ptr 256 0 0), (7, iv ((cntN (fun h => atN a i h != atN b i h) k : Nat) : Int)), (8, iv (i : Int)), (9, iv (k : Int))], [(192, .box [iv (a.hk : Int), .list 1 ra]), (256, .box [iv (b.hk : Int), .list 1 rb])], [], 10000000⟩) (fun _ => True)
   ·simp -implicitDefEqProofs (maxSteps := 2000000) (disch := first | exact tt_rfl rfl | omega | (simp only [go_sem] <;> omega) | fail) only [go_sem, norm_eq, Ok.some]
    simp [cntN]
   ·trivial
   intro k hk _
   by_cases h' : k < a.hk
   ·have x1 := li1 i k (by omega) (by omega)
    have x2 := li2 i k (by omega) (by omega)
    have hc := cntN_succ (fun h => atN a i h != atN b i h) k
    have hcl := cntN_le (fun h => atN a i h != atN b i h) k
    generalize cntN (fun h => atN a i h != atN b i h) (k + 1) = c1 at *
    generalize cntN (fun h => atN a i h != atN b i h) k = c0 at *
    generalize atN a i k = v1 at *
    generalize atN b i k = v2 at *
    cases v1 <;> cases v2
    all_goals
     repeat (first | apply Wp.seqA | apply Wp.skipS | apply Wp.blockS | ((first | apply Wp.regS | apply Wp.condV | apply Wp.reg | apply Wp.condW | apply fin_ret); simp -implicitDefEqProofs (maxSteps := 2000000) (disch := first | exact tt_rfl rfl | omega | (simp only [go_sem] <;> omega) | fail) only [go_sem, h', Int.ofNat_lt, Int.lt_irrefl, show ¬ (i : Int) < 0 by omega, x1, x2, show (false == true) = false from rfl, show (true == false) = false from rfl, bne_self_eq_false, show (false != true) = true from rfl, show (true != false) = true from rfl, beq_self_eq_true] <;> try with_reducible rfl) | apply Wp.block | apply Wp.exitS | apply Wp.retS | apply Wp.exit | apply Wp.ret | apply Wp.skip)
     apply round_next
     ·simp -implicitDefEqProofs (maxSteps := 2000000) (disch := first | exact tt_rfl rfl | omega | (simp only [go_sem] <;> omega) | fail) only [go_sem, norm_eq, Ok.some]; with_reducible rfl
     refine ⟨h', ?_, trivial⟩
     rw [hc]
     simp
    all_goals omega
   ·obtain rfl : k = a.hk := by omega
    repeat (first | apply Wp.seqA | apply Wp.skipS | apply Wp.blockS | ((first | apply Wp.regS | apply Wp.condV | apply Wp.reg | apply Wp.condW | apply fin_ret); simp -implicitDefEqProofs (maxSteps := 2000000) (disch := first | exact tt_rfl rfl | omega | (simp only [go_sem] <;> omega) | fail) only [go_sem, Int.lt_irrefl] <;> try with_reducible rfl) | apply Wp.block | apply Wp.exitS | apply Wp.retS | apply Wp.exit | apply Wp.ret | apply Wp.skip)
    apply round_next
    ·simp -implicitDefEqProofs (maxSteps := 2000000) (disch := first | exact tt_rfl rfl | omega | (simp only [go_sem] <;> omega) | fail) only [go_sem, norm_eq, Ok.some]; with_reducible rfl
    exact ⟨h, by simp, trivial⟩
  ·have e0 : (if p < i + 1 then chgR a b p else 0) = if p < i then chgR a b p else 0 := by
    by_cases h1 : p < i
    ·rw [if_pos h1, if_pos (by omega)]
    ·rw [if_neg h1, if_neg (by omega)]
   rw [e0]
   generalize (if p < i then chgR a b p else 0) = s0 at *
   repeat (first | apply Wp.seqA | apply Wp.skipS | apply Wp.blockS | ((first | apply Wp.regS | apply Wp.condV | apply Wp.reg | apply Wp.condW | apply fin_ret); simp -implicitDefEqProofs (maxSteps := 2000000) (disch := first | exact tt_rfl rfl | omega | (simp only [go_sem] <;> omega) | fail) only [go_sem, h, hln, Int.ofNat_lt] <;> try with_reducible rfl) | apply Wp.block | apply Wp.exitS | apply Wp.retS | apply Wp.exit | apply Wp.ret | apply Wp.skip)
   apply Wp.loopF 0 (fun k => ⟨[(2, iv (p : Int)), (3, .ptr 192 0 0), (4, .ptr 256 0 0), (7, iv (s0 : Int)), (8, iv (i : Int)), (9, iv (k : Int))], [(192, .box [iv (a.hk : Int), .list 1 ra]), (256, .box [iv (b.hk : Int), .list 1 rb])], [], 10000000⟩) (fun k => k = 0)
   ·simp -implicitDefEqProofs (maxSteps := 2000000) (disch := first | exact tt_rfl rfl | omega | (simp only [go_sem] <;> omega) | fail) only [go_sem, norm_eq, Ok.some]
    rfl
   ·rfl
   rintro k _ rfl
   repeat (first | apply Wp.seqA | apply Wp.skipS | apply Wp.blockS | ((first | apply Wp.regS | apply Wp.condV | apply Wp.reg | apply Wp.condW | apply fin_ret); simp -implicitDefEqProofs (maxSteps := 2000000) (disch := first | exact tt_rfl rfl | omega | (simp only [go_sem] <;> omega) | fail) only [go_sem, Int.natCast_zero, show (0 : Int) < (a.hk : Int) by omega, show ¬ (p : Int) = (i : Int) by omega, show ¬ (p : Int) < 0 by omega] <;> try with_reducible rfl) | apply Wp.block | apply Wp.exitS | apply Wp.retS | apply Wp.exit | apply Wp.ret | apply Wp.skip)
   apply round_next
   ·simp -implicitDefEqProofs (maxSteps := 2000000) (disch := first | exact tt_rfl rfl | omega | (simp only [go_sem] <;> omega) | fail) only [go_sem, norm_eq, Ok.some]; with_reducible rfl
   exact ⟨h, by simp, trivial⟩
 ·obtain rfl : i = a.rows.length := by omega
  rw [if_pos hp]
  generalize chgR a b p = s0 at *
  repeat (first | apply Wp.seqA | apply Wp.skipS | apply Wp.blockS | ((first | apply Wp.regS | apply Wp.condV | apply Wp.reg | apply Wp.condW | apply fin_ret); simp -implicitDefEqProofs (maxSteps := 2000000) (disch := first | exact tt_rfl rfl | omega | (simp only [go_sem] <;> omega) | fail) only [go_sem, Int.lt_irrefl, hln] <;> try with_reducible rfl) | apply Wp.block | apply Wp.exitS | apply Wp.retS | apply Wp.exit | apply Wp.ret | apply Wp.skip)
end Go.Abs
