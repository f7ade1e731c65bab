/-
  Chapter 7, without the reference: contracts of marks and right.
-/
import Derived.Test.YtfokmdhmaabegaaS30
set_option linter.all false
namespace Go.Abs
set_option maxRecDepth 10000
set_option maxHeartbeats 1000000

/-- the edges whose bits are set -/
def edgesL (m n : Nat) : List Int := ((List.range n).filter fun i => m.testBit (i + 1)).map fun i => ((i + 1 : Nat) : Int)
theorem edges_succ (m n : Nat) : edgesL m (n + 1) = edgesL m n ++ (if m.testBit (n + 1) then [((n + 1 : Nat) : Int)] else []) := by
  unfold edgesL
  rw [List.range_succ, List.filter_append, List.map_append]
  congr 1
  by_cases h : m.testBit (n + 1) = true <;> simp [h]
theorem edges_len (m n : Nat) : (edgesL m n).length ≤ n := by
  unfold edgesL
  rw [List.length_map]
  have := List.length_filter_le (fun i => m.testBit (i + 1)) (List.range n)
  simpa using this

theorem convU (n : Nat) (h : n < 1000) : IntKind.wrap .u64 (n : Int) = (n : Int) := by
  simp [IntKind.wrap, IntKind.signed, IntKind.bits]; omega
theorem shr16 (a i : Nat) (hi : i < 16) : Int.fdiv (a : Int) (2 ^ min i (IntKind.bits .u16)) = ((a >>> i : Nat) : Int) := by
  rw [show IntKind.bits .u16 = 16 from rfl, Nat.min_eq_left (by omega), Nat.shiftRight_eq_div_pow, Int.fdiv_eq_ediv_of_nonneg _ (Int.pow_nonneg (by omega))]
  simp
theorem and16 (a : Nat) (ha : a < 65536) : IntKind.wrap .u16 ((BitVec.ofInt (IntKind.bits .u16) (a : Int) &&& BitVec.ofInt (IntKind.bits .u16) 1).toNat : Int) = ((a &&& 1 : Nat) : Int) := by
  show IntKind.wrap .u16 ((BitVec.ofInt 16 (a : Int) &&& BitVec.ofNat 16 1).toNat : Int) = ((a &&& 1 : Nat) : Int)
  rw [ofInt_nat, BitVec.toNat_and, BitVec.toNat_ofNat, BitVec.toNat_ofNat, Nat.mod_eq_of_lt (by omega), Nat.mod_eq_of_lt (by omega)]
  have h1 : a &&& 1 ≤ 1 := Nat.and_le_right
  generalize a &&& 1 = x at *
  simp [IntKind.wrap, IntKind.signed, IntKind.bits]; omega

theorem marks_ok (x : Cloth) (n : Nat) (hn : n ≤ 12) : lim F 50 [x.av, iv n] = some (.own 1 ((edgesL x.marks n).map fun n => iv n), []) := by
  obtain ⟨picks, marks, truth, hm⟩ := x
  simp only [Cloth.av]
  refine lim_by (fn := a50) (k := 2) (res := [.tmp 4]) rfl rfl rfl (by simp -implicitDefEqProofs (maxSteps := 2000000) (disch := first | exact tt_rfl rfl | omega | (simp only [go_sem] <;> omega) | fail) only [go_sem]) ?_
  simp -implicitDefEqProofs (maxSteps := 2000000) (disch := first | exact tt_rfl rfl | omega | (simp only [go_sem] <;> omega) | fail) only [go_sem]
  repeat (first | apply Wp.seqA | apply Wp.skipS | apply Wp.blockS | ((first | apply Wp.regS | apply Wp.condV | apply Wp.reg | apply Wp.condW | apply fin_ret); simp -implicitDefEqProofs (maxSteps := 2000000) (disch := first | exact tt_rfl rfl | omega | (simp only [go_sem] <;> omega) | fail) only [go_sem] <;> try with_reducible rfl) | apply Wp.block | apply Wp.exitS | apply Wp.retS | apply Wp.exit | apply Wp.ret | apply Wp.skip)
  apply Wp.loopF n (fun i => ⟨[(1, iv n), (2, .ptr 128 0 0), (5, .slice 320 0 (edgesL marks i).length), (6, iv (i + 1 : Nat))], [(128, .box [.list 4 (picks.map Quad.av), .int .u16 marks, .list 1 (truth.map fun n => u8 n.1)]), (320, .arr 1 ((edgesL marks i).map fun n => iv n))], [], 1000000⟩) (fun _ => True)
  · simp -implicitDefEqProofs (maxSteps := 2000000) (disch := first | exact tt_rfl rfl | omega | (simp only [go_sem] <;> omega) | fail) only [go_sem, norm_eq, Ok.some]
    try rfl
  · trivial
  intro i hi _
  have he := edges_succ marks i
  have hl := edges_len marks i
  by_cases h : i < n
  · have hlt : ((i + 1 : Nat) : Int) ≤ n := by omega
    have f0 := convU (i + 1) (by omega)
    have f1 := shr16 marks (i + 1) (by omega)
    have f2 := and16 (marks >>> (i + 1)) (by rw [Nat.shiftRight_eq_div_pow]; exact Nat.lt_of_le_of_lt (Nat.div_le_self _ _) hm)
    rw [shr_and1] at f2
    by_cases hb : marks.testBit (i + 1) = true
    · rw [if_pos hb] at f2 he
      repeat (first | apply Wp.seqA | apply Wp.skipS | apply Wp.blockS | ((first | apply Wp.regS | apply Wp.condV | apply Wp.reg | apply Wp.condW | apply fin_ret); simp -implicitDefEqProofs (maxSteps := 2000000) (disch := first | exact tt_rfl rfl | omega | (simp only [go_sem] <;> omega) | fail) only [go_sem, hlt, f0, f1, f2] <;> try with_reducible rfl) | apply Wp.block | apply Wp.exitS | apply Wp.retS | apply Wp.exit | apply Wp.ret | apply Wp.skip)
      apply round_next
      · simp -implicitDefEqProofs (maxSteps := 2000000) (disch := first | exact tt_rfl rfl | omega | (simp only [go_sem] <;> omega) | fail) only [go_sem, norm_eq, Ok.some]; with_reducible rfl
      refine ⟨h, ?_, trivial⟩
      simp [he]
    · rw [if_neg hb] at f2 he
      repeat (first | apply Wp.seqA | apply Wp.skipS | apply Wp.blockS | ((first | apply Wp.regS | apply Wp.condV | apply Wp.reg | apply Wp.condW | apply fin_ret); simp -implicitDefEqProofs (maxSteps := 2000000) (disch := first | exact tt_rfl rfl | omega | (simp only [go_sem] <;> omega) | fail) only [go_sem, hlt, f0, f1, f2] <;> try with_reducible rfl) | apply Wp.block | apply Wp.exitS | apply Wp.retS | apply Wp.exit | apply Wp.ret | apply Wp.skip)
      apply round_next
      · simp -implicitDefEqProofs (maxSteps := 2000000) (disch := first | exact tt_rfl rfl | omega | (simp only [go_sem] <;> omega) | fail) only [go_sem, norm_eq, Ok.some]; with_reducible rfl
      refine ⟨h, ?_, trivial⟩
      simp [he]
  · obtain rfl : i = n := by omega
    repeat (first | apply Wp.seqA | apply Wp.skipS | apply Wp.blockS | ((first | apply Wp.regS | apply Wp.condV | apply Wp.reg | apply Wp.condW | apply fin_ret); simp -implicitDefEqProofs (maxSteps := 2000000) (disch := first | exact tt_rfl rfl | omega | (simp only [go_sem] <;> omega) | fail) only [go_sem, show ¬ ((i + 1 : Nat) : Int) ≤ i by omega] <;> try with_reducible rfl) | apply Wp.block | apply Wp.exitS | apply Wp.retS | apply Wp.exit | apply Wp.ret | apply Wp.skip)
end Go.Abs
