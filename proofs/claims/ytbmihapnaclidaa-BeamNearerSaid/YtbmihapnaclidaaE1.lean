/-
  Chapter 6: take-ups in bytes. No condition beyond those that each theorem names.
-/
import Derived.Test.YtbmihapnaclidaaB2
set_option linter.all false
namespace Go.Abs
set_option maxRecDepth 10000
set_option maxHeartbeats 2000000

abbrev TwoB := Fin 256 × Fin 256
def TwoB.av (x : TwoB) : AV := .agg [.int .u8 (x.1.1 : Int), .int .u8 (x.2.1 : Int)]
structure GearA where
  rat : Fin 256
  step : Fin 256
  pairs : List TwoB
  round : Fin 65536
def GearA.av (x : GearA) : AV := .agg [.int .u8 (x.rat.1 : Int), .int .u8 (x.step.1 : Int), .list 2 (x.pairs.map TwoB.av), .int .u16 (x.round.1 : Int)]
@[go_sem] theorem twoB_plain (l : List TwoB) : (l.map TwoB.av).all AV.plain = true := by
  simp [TwoB.av, AV.plain, AV.plain1]

def teethN (b : Fin 256) : Int := 1 + ((b.1 % 100 : Nat) : Int)
def pairB (p : TwoB) : PairT := ⟨teethN p.1, teethN p.2⟩
/-- the take-up of some bytes -/
def gearT (x : GearA) : TakeA := ⟨teethN x.rat, 1 + ((x.step.1 % 5 : Nat) : Int), (x.pairs.map pairB).take 2, 1 + 7 * (x.round.1 : Int)⟩
theorem teethN_in (b : Fin 256) : 1 ≤ teethN b ∧ teethN b ≤ 100 := by unfold teethN; omega
theorem gearT_ok (x : GearA) : checkT (gearT x) = 0 := by
  unfold checkT
  rw [if_neg (by simp [gearT]; omega), if_pos]
  refine ⟨⟨teethN_in _, by simp only [gearT]; omega, by have := x.round.2; simp only [gearT]; omega⟩, fun p hp => ?_⟩
  obtain ⟨q, _, rfl⟩ := List.mem_map.1 (List.mem_of_mem_take hp)
  exact ⟨teethN_in _, teethN_in _⟩

theorem teeth1_ok (b : Fin 256) : lim F 52 [.int .u8 (b.1 : Int)] = some (iv (teethN b), []) := by
  have h := b.2
  have e := tmod_nat b.1 100
  rw [show ((100 : Nat) : Int) = 100 from rfl] at e
  unfold teethN
  refine lim_by (fn := a52) (k := 1) (res := [.tmp 2]) rfl rfl rfl (by simp -implicitDefEqProofs (maxSteps := 2000000) (disch := first | exact tt_rfl rfl | omega | (simp only [go_sem] <;> omega) | fail) only [go_sem]) ?_
  simp -implicitDefEqProofs (maxSteps := 2000000) (disch := first | exact tt_rfl rfl | omega | (simp only [go_sem] <;> omega) | fail) only [go_sem]
  repeat (first | apply Wp.seqA | apply Wp.skipS | apply Wp.blockS | ((first | apply Wp.regS | apply Wp.condV | apply Wp.reg | apply Wp.condW | apply fin_ret); simp -implicitDefEqProofs (maxSteps := 2000000) (disch := first | exact tt_rfl rfl | omega | (simp only [go_sem] <;> omega) | fail) only [go_sem, e] <;> try with_reducible rfl) | apply Wp.block | apply Wp.exitS | apply Wp.retS | apply Wp.exit | apply Wp.ret | apply Wp.skip)

theorem gearTake_ok (x : GearA) : lim F 49 [x.av] = some (.agg [iv (gearT x).rat, iv (gearT x).step, .own 2 ((gearT x).pairs.map PairT.av), iv (gearT x).round], []) := by
  have h1 := teeth1_ok x.rat
  have h2 := x.step.2
  have h3 := x.round.2
  have e := tmod_nat x.step.1 5
  rw [show ((5 : Nat) : Int) = 5 from rfl] at e
  have hb := teethN_in x.rat
  unfold GearA.av gearT
  refine lim_by (fn := a49) (k := 1) (res := [.cell 2 4 true]) rfl rfl rfl (by simp -implicitDefEqProofs (maxSteps := 2000000) (disch := first | exact tt_rfl rfl | omega | (simp only [go_sem] <;> omega) | fail) only [go_sem]) ?_
  simp -implicitDefEqProofs (maxSteps := 2000000) (disch := first | exact tt_rfl rfl | omega | (simp only [go_sem] <;> omega) | fail) only [go_sem]
  repeat (first | apply Wp.seqA | apply Wp.skipS | apply Wp.blockS | ((first | apply Wp.regS | apply Wp.condV | apply Wp.reg | apply Wp.condW | apply fin_ret); simp -implicitDefEqProofs (maxSteps := 2000000) (disch := first | exact tt_rfl rfl | omega | (simp only [go_sem] <;> omega) | fail) only [go_sem, h1, e] <;> try with_reducible rfl) | apply Wp.block | apply Wp.exitS | apply Wp.retS | apply Wp.exit | apply Wp.ret | apply Wp.skip)
  apply Wp.loopF (min x.pairs.length 2) (fun i => ⟨[(1, .ptr 64 0 0), (2, .ptr 128 0 0), (3, .ptr 192 0 0), (4, iv i)], [(64, .box [.int .u8 (x.rat.1 : Int), .int .u8 (x.step.1 : Int), .list 2 (x.pairs.map TwoB.av), .int .u16 (x.round.1 : Int)]), (128, .box [iv 0, iv 0, .slice 302050 0 0, iv 0]),
    (192, .box [iv (teethN x.rat), iv (1 + ((x.step.1 % 5 : Nat) : Int)), .slice 303074 0 i, iv (1 + 7 * (x.round.1 : Int))]), (302050, .arr 2 []), (303074, .arr 2 (((x.pairs.map pairB).take i).map PairT.av))], [], 10000000⟩) (fun _ => True)
  · simp -implicitDefEqProofs (maxSteps := 2000000) (disch := first | exact tt_rfl rfl | omega | (simp only [go_sem] <;> omega) | fail) only [go_sem, norm_eq, Ok.some]
    simp
  · trivial
  intro i hi _
  have hlen : (((x.pairs.map pairB).take i).map PairT.av).length = i := by simp; omega
  by_cases hlt : i < x.pairs.length
  · by_cases h2' : i < 2
    · have t1 := teeth1_ok x.pairs[i].1
      have t2 := teeth1_ok x.pairs[i].2
      have e2 : ((x.pairs.map pairB).take (i + 1)).map PairT.av = ((x.pairs.map pairB).take i).map PairT.av ++ [.agg [iv (teethN x.pairs[i].1), iv (teethN x.pairs[i].2)]] := by
        rw [List.take_succ_eq_append_getElem (by simpa using hlt), List.map_append]
        simp [PairT.av, pairB]
      generalize ((x.pairs.map pairB).take i).map PairT.av = es at hlen e2
      repeat (first | apply Wp.seqA | apply Wp.skipS | apply Wp.blockS | ((first | apply Wp.regS | apply Wp.condV | apply Wp.reg | apply Wp.condW | apply fin_ret); simp -implicitDefEqProofs (maxSteps := 2000000) (disch := first | exact tt_rfl rfl | omega | (simp only [go_sem] <;> omega) | fail) only [go_sem, hlt, Int.ofNat_lt, show (i : Int) < 2 by omega, List.getElem?_map, List.getElem?_eq_getElem hlt, Option.map_some, TwoB.av.eq_1, t1, t2, hlen] <;> try with_reducible rfl) | apply Wp.block | apply Wp.exitS | apply Wp.retS | apply Wp.exit | apply Wp.ret | apply Wp.skip)
      apply round_next
      · simp -implicitDefEqProofs (maxSteps := 2000000) (disch := first | exact tt_rfl rfl | omega | (simp only [go_sem] <;> omega) | fail) only [go_sem, norm_eq, Ok.some]; with_reducible rfl
      exact ⟨by omega, by rw [e2]; simp, trivial⟩
    · have e3 : ((x.pairs.map pairB).take 2).map PairT.av = ((x.pairs.map pairB).take i).map PairT.av := by rw [show i = 2 by omega]
      rw [e3]
      generalize ((x.pairs.map pairB).take i).map PairT.av = es at hlen
      repeat (first | apply Wp.seqA | apply Wp.skipS | apply Wp.blockS | ((first | apply Wp.regS | apply Wp.condV | apply Wp.reg | apply Wp.condW | apply fin_ret); simp -implicitDefEqProofs (maxSteps := 2000000) (disch := first | exact tt_rfl rfl | omega | (simp only [go_sem] <;> omega) | fail) only [go_sem, hlt, Int.ofNat_lt, show ¬ (i : Int) < 2 by omega, hlen] <;> try with_reducible rfl) | apply Wp.block | apply Wp.exitS | apply Wp.retS | apply Wp.exit | apply Wp.ret | apply Wp.skip)
  · have e3 : ((x.pairs.map pairB).take 2).map PairT.av = ((x.pairs.map pairB).take i).map PairT.av := by rw [List.take_of_length_le (by simp; omega), List.take_of_length_le (by simp; omega)]
    rw [e3]
    generalize ((x.pairs.map pairB).take i).map PairT.av = es at hlen
    repeat (first | apply Wp.seqA | apply Wp.skipS | apply Wp.blockS | ((first | apply Wp.regS | apply Wp.condV | apply Wp.reg | apply Wp.condW | apply fin_ret); simp -implicitDefEqProofs (maxSteps := 2000000) (disch := first | exact tt_rfl rfl | omega | (simp only [go_sem] <;> omega) | fail) only [go_sem, hlt, Int.ofNat_lt, hlen] <;> try with_reducible rfl) | apply Wp.block | apply Wp.exitS | apply Wp.retS | apply Wp.exit | apply Wp.ret | apply Wp.skip)

theorem parts_ok (t : TakeA) (h : checkT t = 0) : lim F 50 [t.av] = some (.tuple [iv (numT t), iv (denT t)], []) := by
  obtain ⟨hl, ⟨h1, h2, h3⟩, hp⟩ := checkT_zero h
  have b0 := numI_bound h 0
  rw [numI_zero, denI_zero] at b0
  unfold TakeA.av
  refine lim_by (fn := a50) (k := 1) (res := [.tmp 2, .tmp 3]) rfl rfl rfl (by simp -implicitDefEqProofs (maxSteps := 2000000) (disch := first | exact tt_rfl rfl | omega | (simp only [go_sem] <;> omega) | fail) only [go_sem]) ?_
  simp -implicitDefEqProofs (maxSteps := 2000000) (disch := first | exact tt_rfl rfl | omega | (simp only [go_sem] <;> omega) | fail) only [go_sem]
  repeat (first | apply Wp.seqA | apply Wp.skipS | apply Wp.blockS | ((first | apply Wp.regS | apply Wp.condV | apply Wp.reg | apply Wp.condW | apply fin_ret); simp -implicitDefEqProofs (maxSteps := 2000000) (disch := first | exact tt_rfl rfl | omega | (simp only [go_sem] <;> omega) | fail) only [go_sem] <;> try with_reducible rfl) | apply Wp.block | apply Wp.exitS | apply Wp.retS | apply Wp.exit | apply Wp.ret | apply Wp.skip)
  apply Wp.loopF t.pairs.length (fun i => ⟨[(1, .ptr 64 0 0), (2, iv (numI t i)), (3, iv (denI t i)), (4, iv i)], [(64, .box [iv t.rat, iv t.step, .list 2 (t.pairs.map PairT.av), iv t.round])], [], 10000000⟩) (fun _ => True)
  · simp -implicitDefEqProofs (maxSteps := 2000000) (disch := first | exact tt_rfl rfl | omega | (simp only [go_sem] <;> omega) | fail) only [go_sem, norm_eq, Ok.some]
    rw [numI_zero, denI_zero]
    rfl
  · trivial
  intro i hi _
  by_cases hlt : i < t.pairs.length
  · have bi := numI_bound h i
    have bj := numI_bound h (i + 1)
    have s1 := numI_succ hlt
    have s2 := denI_succ hlt
    repeat (first | apply Wp.seqA | apply Wp.skipS | apply Wp.blockS | ((first | apply Wp.regS | apply Wp.condV | apply Wp.reg | apply Wp.condW | apply fin_ret); simp -implicitDefEqProofs (maxSteps := 2000000) (disch := first | exact tt_rfl rfl | omega | (simp only [go_sem] <;> omega) | fail) only [go_sem, hlt, Int.ofNat_lt, List.getElem?_map, List.getElem?_eq_getElem hlt, Option.map_some, PairT.av.eq_1, ← s1, ← s2] <;> try with_reducible rfl) | apply Wp.block | apply Wp.exitS | apply Wp.retS | apply Wp.exit | apply Wp.ret | apply Wp.skip)
    apply round_next
    · simp -implicitDefEqProofs (maxSteps := 2000000) (disch := first | exact tt_rfl rfl | omega | (simp only [go_sem] <;> omega) | fail) only [go_sem, norm_eq, Ok.some]; with_reducible rfl
    exact ⟨hlt, by simp, trivial⟩
  · obtain rfl : i = t.pairs.length := by omega
    rw [numI_end, denI_end]
    repeat (first | apply Wp.seqA | apply Wp.skipS | apply Wp.blockS | ((first | apply Wp.regS | apply Wp.condV | apply Wp.reg | apply Wp.condW | apply fin_ret); simp -implicitDefEqProofs (maxSteps := 2000000) (disch := first | exact tt_rfl rfl | omega | (simp only [go_sem] <;> omega) | fail) only [go_sem, Int.lt_irrefl] <;> try with_reducible rfl) | apply Wp.block | apply Wp.exitS | apply Wp.retS | apply Wp.exit | apply Wp.ret | apply Wp.skip)

theorem same_ok (a b n d : Int) (h1 : 0 < n) (h2 : 0 < d) (h3 : n ≤ 1099511627776) (h4 : d ≤ 4194304) (h5 : a * d = n * b) (h6 : 0 ≤ a * d ∧ a * d ≤ 1000000000000000000) : lim F 51 [iv a, iv b, .agg [iv n, iv d]] = some (.bool true, []) := by
  refine lim_by (fn := a51) (k := 3) (res := [.tmp 6]) rfl rfl rfl (by simp -implicitDefEqProofs (maxSteps := 2000000) (disch := first | exact tt_rfl rfl | omega | (simp only [go_sem] <;> omega) | fail) only [go_sem]) ?_
  simp -implicitDefEqProofs (maxSteps := 2000000) (disch := first | exact tt_rfl rfl | omega | (simp only [go_sem] <;> omega) | fail) only [go_sem]
  repeat (first | apply Wp.seqA | apply Wp.skipS | apply Wp.blockS | ((first | apply Wp.regS | apply Wp.condV | apply Wp.reg | apply Wp.condW | apply fin_ret); simp -implicitDefEqProofs (maxSteps := 2000000) (disch := first | exact tt_rfl rfl | omega | (simp only [go_sem] <;> omega) | fail) only [go_sem, h1, h2, h3, h4, h5, gt_iff_lt, beq_self_eq_true] <;> try with_reducible rfl) | apply Wp.block | apply Wp.exitS | apply Wp.retS | apply Wp.exit | apply Wp.ret | apply Wp.skip)
end Go.Abs
