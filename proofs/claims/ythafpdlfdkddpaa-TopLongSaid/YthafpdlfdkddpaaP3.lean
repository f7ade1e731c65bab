/-
  Chapter 1: the floats of points that go round. No condition beyond those that each theorem names.
-/
import Derived.Test.YthafpdlfdkddpaaR1
import Derived.Test.YthafpdlfdkddpaaM2
import Derived.Test.YthafpdlfdkddpaaEvM
set_option linter.all false
namespace Go.Abs
set_option maxRecDepth 10000
set_option maxHeartbeats 2000000

theorem ring_get {l : List Bool} {i : Nat} (h : 0 < l.length) : (l.map fun b => AV.bool b)[i % l.length]? = some (.bool (gb l i)) := by
  rw [List.getElem?_map, gb_get h]; rfl
theorem ring_at {l : List Bool} {i : Nat} (h : i < l.length) : (l.map fun b => AV.bool b)[i]? = some (.bool (gb l i)) := by
  have := ring_get (l := l) (i := i) (by omega)
  rwa [Nat.mod_eq_of_lt h] at this
theorem begins_ok (l : List Bool) (i : Nat) (hi : i < l.length) (hl : l.length ≤ 1000) : lim F 66 [iv (i : Int), .iptr (.agg [ringV l]) 0] = some (.bool (begs l i), []) := by
  have g1 := ring_at hi
  have g2 := ring_get (l := l) (i := i + l.length - 1) (by omega)
  have e : Int.tmod ((i : Int) + l.length - 1) (l.length : Int) = (((i + l.length - 1) % l.length : Nat) : Int) := by
    rw [show (i : Int) + l.length - 1 = ((i + l.length - 1 : Nat) : Int) by omega, Int.tmod_eq_emod_of_nonneg (Int.natCast_nonneg _)]; simp
  have hm := Nat.mod_lt (i + l.length - 1) (show 0 < l.length by omega)
  have hlen : (l.map fun b => AV.bool b).length = l.length := by simp
  have hb : begs l i = (gb l i != gb l (i + l.length - 1)) := rfl
  unfold ringV
  rw [hb]
  generalize l.map (fun b => AV.bool b) = es at *
  generalize (i + l.length - 1) % l.length = m at *
  generalize gb l i = x at *
  generalize gb l (i + l.length - 1) = y at *
  refine lim_by (fn := a66) (k := 2) (res := [.tmp 3]) rfl rfl rfl (by simp -implicitDefEqProofs (maxSteps := 2000000) (disch := first | exact tt_rfl rfl | omega | (simp only [go_sem] <;> omega) | fail) only [go_sem]) ?_
  try delta mvA
  try delta opA
  try delta tA
  simp -implicitDefEqProofs (maxSteps := 2000000) (disch := first | exact tt_rfl rfl | omega | (simp only [go_sem] <;> omega) | fail) only [go_sem]
  repeat (first | apply Wp.seqA | apply Wp.skipS | apply Wp.blockS | ((first | apply Wp.regS | apply Wp.condV | apply Wp.reg | apply Wp.condW | apply fin_ret); simp -implicitDefEqProofs (maxSteps := 2000000) (disch := first | exact tt_rfl rfl | omega | (simp only [go_sem] <;> omega) | fail) only [go_sem, hlen, g1, g2, e, Int.toNat_natCast, show (l.length : Int) ≠ 0 by omega] <;> try with_reducible rfl) | apply Wp.block | apply Wp.exitS | apply Wp.retS | apply Wp.exit | apply Wp.ret | apply Wp.skip)
  cases x <;> cases y <;> rfl

def runV (x : RunT) : List AV := [x.av]
theorem begs_pos {l : List Bool} (i : Nat) (h0 : 0 < l.length) : begs l (i % l.length) = begs l i := begs_mod l i
theorem run_beq (x : RunT) : AV.beqL [x.av] [x.av] = true := by
  unfold RunT.av
  simp [AV.beqL, AV.beq]
theorem runs_guess (l : List Bool) (h0 : 0 < l.length) (hl : l.length ≤ 1000) : lim F 65 [ringV l, .ylog none []] = some (.tuple [], [.ylog none ((runsT l).map runV)]) := by
  have hlen : (l.map fun b => AV.bool b).length = l.length := by simp
  have hB := fun (i : Nat) (hi : i < l.length) => begins_ok l i hi hl
  have hA := fun (i : Nat) (hi : i < l.length) => ring_at hi
  have hz : anyTo l 0 = false := rfl
  have eT : runsT l = runsTo l l.length ++ lastT l := rfl
  unfold ringV at *
  generalize l.map (fun b => AV.bool b) = es at *
  refine lim_by (fn := a65) (k := 2) (res := []) rfl rfl rfl (by simp -implicitDefEqProofs (maxSteps := 2000000) (disch := first | exact tt_rfl rfl | omega | (simp only [go_sem] <;> omega) | fail) only [go_sem]) ?_
  try delta mvA
  try delta opA
  try delta tA
  simp -implicitDefEqProofs (maxSteps := 2000000) (disch := first | exact tt_rfl rfl | omega | (simp only [go_sem] <;> omega) | fail) only [go_sem]
  repeat (first | apply Wp.seqA | apply Wp.skipS | apply Wp.blockS | ((first | apply Wp.regS | apply Wp.condV | apply Wp.reg | apply Wp.condW | apply fin_ret); simp -implicitDefEqProofs (maxSteps := 2000000) (disch := first | exact tt_rfl rfl | omega | (simp only [go_sem] <;> omega) | fail) only [go_sem, hlen] <;> try with_reducible rfl) | apply Wp.block | apply Wp.exitS | apply Wp.retS | apply Wp.exit | apply Wp.ret | apply Wp.skip)
  apply Wp.loopF l.length (fun i => ⟨[(1, .yieldT 200000), (2, .ptr 128 0 0), (4, .func 66 [.ptr 128 0 0]), (5, .bool (!anyTo l i)), (10, iv (l.length : Int)), (11, iv (i : Int))], [(128, .box [.list 1 es]), (200000, .num 3500000), (3500000, .log none ((runsTo l i).map runV))], [(200000, none)], 10000000⟩) (fun _ => True)
  · simp -implicitDefEqProofs (maxSteps := 2000000) (disch := first | exact tt_rfl rfl | omega | (simp only [go_sem] <;> omega) | fail) only [go_sem, norm_eq, Ok.some]
    rfl
  · trivial
  intro i hi _
  by_cases h : i < l.length
  · have hb := hB i h
    have ha := hA i h
    have hs := anyTo_succ l i
    have hr := runsTo_succ l i
    cases hbe : begs l i with
    | false =>
      rw [hbe] at hb hs hr
      rw [Bool.or_false] at hs
      rw [if_neg (by simp)] at hr
      repeat (first | apply Wp.seqA | apply Wp.skipS | apply Wp.blockS | ((first | apply Wp.regS | apply Wp.condV | apply Wp.reg | apply Wp.condW | apply fin_ret); simp -implicitDefEqProofs (maxSteps := 2000000) (disch := first | exact tt_rfl rfl | omega | (simp only [go_sem] <;> omega) | fail) only [go_sem, h, Int.ofNat_lt, hb] <;> try with_reducible rfl) | apply Wp.block | apply Wp.exitS | apply Wp.retS | apply Wp.exit | apply Wp.ret | apply Wp.skip)
      apply round_next
      · simp -implicitDefEqProofs (maxSteps := 2000000) (disch := first | exact tt_rfl rfl | omega | (simp only [go_sem] <;> omega) | fail) only [go_sem, norm_eq, Ok.some]; with_reducible rfl
      refine ⟨h, ?_, trivial⟩
      rw [hs, hr, List.append_nil]
      simp
    | true =>
      have hL := lenT_is hbe
      have hpos := hL.pos
      have hlt := hL.lt
      have hbs := hL.begs
      have hbe' := hL.end
      rw [hbe] at hb hs hr
      rw [Bool.or_true] at hs
      rw [if_pos rfl] at hr
      have ex : runAt l i = ⟨i, lenT l i, gb l i⟩ := rfl
      generalize hn : lenT l i = n at *
      generalize hup : gb l i = up at *
      repeat (first | apply Wp.seqA | apply Wp.skipS | apply Wp.blockS | ((first | apply Wp.regS | apply Wp.condV | apply Wp.reg | apply Wp.condW | apply fin_ret); simp -implicitDefEqProofs (maxSteps := 2000000) (disch := first | exact tt_rfl rfl | omega | (simp only [go_sem] <;> omega) | fail) only [go_sem, h, Int.ofNat_lt, hb, ha] <;> try with_reducible rfl) | apply Wp.block | apply Wp.exitS | apply Wp.retS | apply Wp.exit | apply Wp.ret | apply Wp.skip)
      apply Wp.loopF (n - 1) (fun k => ⟨[(1, .yieldT 200000), (2, .ptr 128 0 0), (4, .func 66 [.ptr 128 0 0]), (5, .bool false), (6, iv (i : Int)), (7, .ptr 448 0 0), (10, iv (l.length : Int)), (11, iv (i : Int))], [(128, .box [.list 1 es]), (448, .box [iv (i : Int), iv ((k + 1 : Nat) : Int), .bool up]), (200000, .num 3500000), (3500000, .log none ((runsTo l i).map runV))], [(200000, none)], 10000000⟩) (fun _ => True)
      · simp -implicitDefEqProofs (maxSteps := 2000000) (disch := first | exact tt_rfl rfl | omega | (simp only [go_sem] <;> omega) | fail) only [go_sem, norm_eq, Ok.some]
        rfl
      · trivial
      intro k hk _
      have hm := Nat.mod_lt (i + (k + 1)) h0
      have hb2 := hB _ hm
      rw [begs_mod] at hb2
      have e : Int.tmod ((i : Int) + ((k + 1 : Nat) : Int)) (l.length : Int) = (((i + (k + 1)) % l.length : Nat) : Int) := by
        rw [show (i : Int) + ((k + 1 : Nat) : Int) = ((i + (k + 1) : Nat) : Int) by omega, Int.tmod_eq_emod_of_nonneg (Int.natCast_nonneg _)]; simp
      by_cases hkn : k < n - 1
      · rw [hbs (k + 1) (by omega) (by omega)] at hb2
        generalize (i + (k + 1)) % l.length = m at *
        repeat (first | apply Wp.seqA | apply Wp.skipS | apply Wp.blockS | ((first | apply Wp.regS | apply Wp.condV | apply Wp.reg | apply Wp.condW | apply fin_ret); simp -implicitDefEqProofs (maxSteps := 2000000) (disch := first | exact tt_rfl rfl | omega | (simp only [go_sem] <;> omega) | fail) only [go_sem, hlen, e, hb2, show (l.length : Int) ≠ 0 by omega] <;> try with_reducible rfl) | apply Wp.block | apply Wp.exitS | apply Wp.retS | apply Wp.exit | apply Wp.ret | apply Wp.skip)
        apply block_norm
        apply round_next
        · simp -implicitDefEqProofs (maxSteps := 2000000) (disch := first | exact tt_rfl rfl | omega | (simp only [go_sem] <;> omega) | fail) only [go_sem, norm_eq, Ok.some]; with_reducible rfl
        exact ⟨hkn, by simp, trivial⟩
      · obtain rfl : k = n - 1 := by omega
        rw [show n - 1 + 1 = n by omega] at *
        rw [hbe'] at hb2
        generalize (i + n) % l.length = m at *
        rw [ex] at hr
        
        repeat (first | apply Wp.seqA | apply Wp.skipS | apply Wp.blockS | ((first | apply Wp.regS | apply Wp.condV | apply Wp.reg | apply Wp.condW | apply fin_ret); simp -implicitDefEqProofs (maxSteps := 2000000) (disch := first | exact tt_rfl rfl | omega | (simp only [go_sem] <;> omega) | fail) only [go_sem, hlen, e, hb2, show (l.length : Int) ≠ 0 by omega] <;> try with_reducible rfl) | apply Wp.block | apply Wp.exitS | apply Wp.retS | apply Wp.exit | apply Wp.ret | apply Wp.skip)
        apply round_next
        · simp -implicitDefEqProofs (maxSteps := 2000000) (disch := first | exact tt_rfl rfl | omega | (simp only [go_sem] <;> omega) | fail) only [go_sem, norm_eq, Ok.some]; with_reducible rfl
        refine ⟨h, ?_, trivial⟩
        rw [hs, hr]
        simp [runV, RunT.av]
  · obtain rfl : i = l.length := by omega
    cases ha : anyTo l l.length with
    | true =>
      have el : lastT l = [] := by unfold lastT; rw [ha, if_pos rfl]
      rw [el] at eT
      rw [List.append_nil] at eT
      repeat (first | apply Wp.seqA | apply Wp.skipS | apply Wp.blockS | ((first | apply Wp.regS | apply Wp.condV | apply Wp.reg | apply Wp.condW | apply fin_ret); simp -implicitDefEqProofs (maxSteps := 2000000) (disch := first | exact tt_rfl rfl | omega | (simp only [go_sem] <;> omega) | fail) only [go_sem, Int.lt_irrefl, hlen, ha] <;> try with_reducible rfl) | apply Wp.block | apply Wp.exitS | apply Wp.retS | apply Wp.exit | apply Wp.ret | apply Wp.skip)
      rw [eT]
    | false =>
      have el : lastT l = [⟨0, 1000, gb l 0⟩] := by unfold lastT; rw [ha, if_neg (by simp)]
      have g0 := hA 0 h0
      rw [el] at eT
      
      generalize gb l 0 = up at *
      repeat (first | apply Wp.seqA | apply Wp.skipS | apply Wp.blockS | ((first | apply Wp.regS | apply Wp.condV | apply Wp.reg | apply Wp.condW | apply fin_ret); simp -implicitDefEqProofs (maxSteps := 2000000) (disch := first | exact tt_rfl rfl | omega | (simp only [go_sem] <;> omega) | fail) only [go_sem, Int.lt_irrefl, hlen, ha, g0] <;> try with_reducible rfl) | apply Wp.block | apply Wp.exitS | apply Wp.retS | apply Wp.exit | apply Wp.ret | apply Wp.skip)
      rw [eT]
      simp [runV, RunT.av]

theorem runs_check (l : List Bool) (h0 : 0 < l.length) (hl : l.length ≤ 1000) : lim F 65 [ringV l, .ylog (some 0) ((runsT l).map runV)] = some (.tuple [], [.ylog (some 0) []]) := by
  have hlen : (l.map fun b => AV.bool b).length = l.length := by simp
  have hB := fun (i : Nat) (hi : i < l.length) => begins_ok l i hi hl
  have hA := fun (i : Nat) (hi : i < l.length) => ring_at hi
  have hz : anyTo l 0 = false := rfl
  have eT : runsT l = runsTo l l.length ++ lastT l := rfl
  unfold ringV at *
  generalize l.map (fun b => AV.bool b) = es at *
  refine lim_by (fn := a65) (k := 2) (res := []) rfl rfl rfl (by simp -implicitDefEqProofs (maxSteps := 2000000) (disch := first | exact tt_rfl rfl | omega | (simp only [go_sem] <;> omega) | fail) only [go_sem]) ?_
  try delta mvA
  try delta opA
  try delta tA
  simp -implicitDefEqProofs (maxSteps := 2000000) (disch := first | exact tt_rfl rfl | omega | (simp only [go_sem] <;> omega) | fail) only [go_sem]
  repeat (first | apply Wp.seqA | apply Wp.skipS | apply Wp.blockS | ((first | apply Wp.regS | apply Wp.condV | apply Wp.reg | apply Wp.condW | apply fin_ret); simp -implicitDefEqProofs (maxSteps := 2000000) (disch := first | exact tt_rfl rfl | omega | (simp only [go_sem] <;> omega) | fail) only [go_sem, hlen] <;> try with_reducible rfl) | apply Wp.block | apply Wp.exitS | apply Wp.retS | apply Wp.exit | apply Wp.ret | apply Wp.skip)
  apply Wp.loopF l.length (fun i => ⟨[(1, .yieldT 200000), (2, .ptr 128 0 0), (4, .func 66 [.ptr 128 0 0]), (5, .bool (!anyTo l i)), (10, iv (l.length : Int)), (11, iv (i : Int))], [(128, .box [.list 1 es]), (200000, .num 3500000), (3500000, .log (some 0) ((runsFrom l i ++ lastT l).map runV))], [(200000, none)], 10000000⟩) (fun _ => True)
  · simp -implicitDefEqProofs (maxSteps := 2000000) (disch := first | exact tt_rfl rfl | omega | (simp only [go_sem] <;> omega) | fail) only [go_sem, norm_eq, Ok.some]
    rw [runsFrom_zero]; rfl
  · trivial
  intro i hi _
  by_cases h : i < l.length
  · have hb := hB i h
    have ha := hA i h
    have hs := anyTo_succ l i
    have hr := runsFrom_step h
    cases hbe : begs l i with
    | false =>
      rw [hbe] at hb hs hr
      rw [Bool.or_false] at hs
      rw [if_neg (by simp)] at hr
      repeat (first | apply Wp.seqA | apply Wp.skipS | apply Wp.blockS | ((first | apply Wp.regS | apply Wp.condV | apply Wp.reg | apply Wp.condW | apply fin_ret); simp -implicitDefEqProofs (maxSteps := 2000000) (disch := first | exact tt_rfl rfl | omega | (simp only [go_sem] <;> omega) | fail) only [go_sem, h, Int.ofNat_lt, hb] <;> try with_reducible rfl) | apply Wp.block | apply Wp.exitS | apply Wp.retS | apply Wp.exit | apply Wp.ret | apply Wp.skip)
      apply round_next
      · simp -implicitDefEqProofs (maxSteps := 2000000) (disch := first | exact tt_rfl rfl | omega | (simp only [go_sem] <;> omega) | fail) only [go_sem, norm_eq, Ok.some]; with_reducible rfl
      refine ⟨h, ?_, trivial⟩
      rw [hs, hr, List.nil_append]
      simp
    | true =>
      have hL := lenT_is hbe
      have hpos := hL.pos
      have hlt := hL.lt
      have hbs := hL.begs
      have hbe' := hL.end
      rw [hbe] at hb hs hr
      rw [Bool.or_true] at hs
      rw [if_pos rfl] at hr
      have ex : runAt l i = ⟨i, lenT l i, gb l i⟩ := rfl
      generalize hn : lenT l i = n at *
      generalize hup : gb l i = up at *
      repeat (first | apply Wp.seqA | apply Wp.skipS | apply Wp.blockS | ((first | apply Wp.regS | apply Wp.condV | apply Wp.reg | apply Wp.condW | apply fin_ret); simp -implicitDefEqProofs (maxSteps := 2000000) (disch := first | exact tt_rfl rfl | omega | (simp only [go_sem] <;> omega) | fail) only [go_sem, h, Int.ofNat_lt, hb, ha] <;> try with_reducible rfl) | apply Wp.block | apply Wp.exitS | apply Wp.retS | apply Wp.exit | apply Wp.ret | apply Wp.skip)
      apply Wp.loopF (n - 1) (fun k => ⟨[(1, .yieldT 200000), (2, .ptr 128 0 0), (4, .func 66 [.ptr 128 0 0]), (5, .bool false), (6, iv (i : Int)), (7, .ptr 448 0 0), (10, iv (l.length : Int)), (11, iv (i : Int))], [(128, .box [.list 1 es]), (448, .box [iv (i : Int), iv ((k + 1 : Nat) : Int), .bool up]), (200000, .num 3500000), (3500000, .log (some 0) ((runsFrom l i ++ lastT l).map runV))], [(200000, none)], 10000000⟩) (fun _ => True)
      · simp -implicitDefEqProofs (maxSteps := 2000000) (disch := first | exact tt_rfl rfl | omega | (simp only [go_sem] <;> omega) | fail) only [go_sem, norm_eq, Ok.some]
        rfl
      · trivial
      intro k hk _
      have hm := Nat.mod_lt (i + (k + 1)) h0
      have hb2 := hB _ hm
      rw [begs_mod] at hb2
      have e : Int.tmod ((i : Int) + ((k + 1 : Nat) : Int)) (l.length : Int) = (((i + (k + 1)) % l.length : Nat) : Int) := by
        rw [show (i : Int) + ((k + 1 : Nat) : Int) = ((i + (k + 1) : Nat) : Int) by omega, Int.tmod_eq_emod_of_nonneg (Int.natCast_nonneg _)]; simp
      by_cases hkn : k < n - 1
      · rw [hbs (k + 1) (by omega) (by omega)] at hb2
        generalize (i + (k + 1)) % l.length = m at *
        repeat (first | apply Wp.seqA | apply Wp.skipS | apply Wp.blockS | ((first | apply Wp.regS | apply Wp.condV | apply Wp.reg | apply Wp.condW | apply fin_ret); simp -implicitDefEqProofs (maxSteps := 2000000) (disch := first | exact tt_rfl rfl | omega | (simp only [go_sem] <;> omega) | fail) only [go_sem, hlen, e, hb2, show (l.length : Int) ≠ 0 by omega] <;> try with_reducible rfl) | apply Wp.block | apply Wp.exitS | apply Wp.retS | apply Wp.exit | apply Wp.ret | apply Wp.skip)
        apply block_norm
        apply round_next
        · simp -implicitDefEqProofs (maxSteps := 2000000) (disch := first | exact tt_rfl rfl | omega | (simp only [go_sem] <;> omega) | fail) only [go_sem, norm_eq, Ok.some]; with_reducible rfl
        exact ⟨hkn, by simp, trivial⟩
      · obtain rfl : k = n - 1 := by omega
        rw [show n - 1 + 1 = n by omega] at *
        rw [hbe'] at hb2
        generalize (i + n) % l.length = m at *
        rw [ex] at hr
        rw [hr, List.append_assoc, List.cons_append, List.map_cons]
        have hq := run_beq ⟨i, n, up⟩
        unfold runV RunT.av at *
        rw [List.nil_append]
        dsimp only at *
        repeat (first | apply Wp.seqA | apply Wp.skipS | apply Wp.blockS | ((first | apply Wp.regS | apply Wp.condV | apply Wp.reg | apply Wp.condW | apply fin_ret); simp -implicitDefEqProofs (maxSteps := 2000000) (disch := first | exact tt_rfl rfl | omega | (simp only [go_sem] <;> omega) | fail) only [go_sem, hlen, e, hb2, show (l.length : Int) ≠ 0 by omega, hq] <;> try with_reducible rfl) | apply Wp.block | apply Wp.exitS | apply Wp.retS | apply Wp.exit | apply Wp.ret | apply Wp.skip)
        apply round_next
        · simp -implicitDefEqProofs (maxSteps := 2000000) (disch := first | exact tt_rfl rfl | omega | (simp only [go_sem] <;> omega) | fail) only [go_sem, norm_eq, Ok.some]; with_reducible rfl
        refine ⟨h, ?_, trivial⟩
        rw [hs]
        simp [runV, RunT.av]
  · obtain rfl : i = l.length := by omega
    cases ha : anyTo l l.length with
    | true =>
      have el : lastT l = [] := by unfold lastT; rw [ha, if_pos rfl]
      rw [el] at eT
      rw [runsFrom_end, el]
      repeat (first | apply Wp.seqA | apply Wp.skipS | apply Wp.blockS | ((first | apply Wp.regS | apply Wp.condV | apply Wp.reg | apply Wp.condW | apply fin_ret); simp -implicitDefEqProofs (maxSteps := 2000000) (disch := first | exact tt_rfl rfl | omega | (simp only [go_sem] <;> omega) | fail) only [go_sem, Int.lt_irrefl, hlen, ha] <;> try with_reducible rfl) | apply Wp.block | apply Wp.exitS | apply Wp.retS | apply Wp.exit | apply Wp.ret | apply Wp.skip)
      
    | false =>
      have el : lastT l = [⟨0, 1000, gb l 0⟩] := by unfold lastT; rw [ha, if_neg (by simp)]
      have g0 := hA 0 h0
      rw [el] at eT
      rw [runsFrom_end, el]
      have hq : AV.beqL [.agg [iv 0, iv 1000, .bool (gb l 0)]] [.agg [iv 0, iv 1000, .bool (gb l 0)]] = true := by simp [AV.beqL, AV.beq]
      simp only [List.nil_append, List.map_cons, List.map_nil]
      unfold runV RunT.av at *
      dsimp only at *
      rw [show ((0 : Nat) : Int) = 0 from rfl, show ((1000 : Nat) : Int) = 1000 from rfl]
      generalize gb l 0 = up at *
      repeat (first | apply Wp.seqA | apply Wp.skipS | apply Wp.blockS | ((first | apply Wp.regS | apply Wp.condV | apply Wp.reg | apply Wp.condW | apply fin_ret); simp -implicitDefEqProofs (maxSteps := 2000000) (disch := first | exact tt_rfl rfl | omega | (simp only [go_sem] <;> omega) | fail) only [go_sem, Int.lt_irrefl, hlen, ha, g0, hq] <;> try with_reducible rfl) | apply Wp.block | apply Wp.exitS | apply Wp.retS | apply Wp.exit | apply Wp.ret | apply Wp.skip)
      
end Go.Abs
