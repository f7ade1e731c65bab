/-
  Chapter 6: what wheels of a shop take up. No condition beyond those that each theorem names.
-/
import Derived.Test.YtbmihapnaclidaaB2
import Derived.Test.YtbmihapnaclidaaEvI
set_option linter.all false
namespace Go.Abs
set_option maxRecDepth 10000
set_option maxHeartbeats 2000000

abbrev P2 := Int × Int
def nsL : List P2 → List AV
  | [] => []
  | p :: ps => iv p.1 :: iv p.2 :: nsL ps
def chV (ps : List P2) : List (List AV) := ps.map fun p => [.list 1 [iv p.1, iv p.2]]
theorem nsL_len (ps : List P2) : (nsL ps).length = 2 * ps.length := by
  induction ps with
  | nil => rfl
  | cons p ps ih => simp only [nsL, List.length_cons, ih]; omega
theorem nsL_at {ps : List P2} : ∀ {i : Nat} (h : i < ps.length), (nsL ps).drop (2 * i) = iv ps[i].1 :: iv ps[i].2 :: (nsL ps).drop (2 * (i + 1)) := by
  induction ps with
  | nil => intro i h; simp at h
  | cons p ps ih =>
    intro i h
    match i with
    | 0 => simp [nsL]
    | i + 1 =>
      have := ih (i := i) (by simpa using h)
      rw [show 2 * (i + 1) = 2 * i + 1 + 1 by omega, show 2 * (i + 1 + 1) = 2 * (i + 1) + 1 + 1 by omega]
      simp only [nsL, List.drop_succ_cons, List.getElem_cons_succ]
      exact this

theorem chunk_guess (ps : List P2) (xs : List (List AV)) (hl : ps.length ≤ 1000) : lim F 122 [.ylog none xs, .iptr (.agg [.list 1 (nsL ps)]) 0, .iptr (.agg [iv 2]) 0] = some (.tuple [], [.ylog none (xs ++ chV ps)]) := by
  have hn := nsL_len ps
  refine lim_by (fn := a122) (k := 3) (res := []) rfl rfl rfl (by simp -implicitDefEqProofs (maxSteps := 2000000) (disch := first | exact tt_rfl rfl | omega | (simp only [go_sem] <;> omega) | fail) only [go_sem]) ?_
  simp -implicitDefEqProofs (maxSteps := 2000000) (disch := first | exact tt_rfl rfl | omega | (simp only [go_sem] <;> omega) | fail) only [go_sem]
  repeat (first | apply Wp.seqA | apply Wp.skipS | apply Wp.blockS | ((first | apply Wp.regS | apply Wp.condV | apply Wp.reg | apply Wp.condW | apply fin_ret); simp -implicitDefEqProofs (maxSteps := 2000000) (disch := first | exact tt_rfl rfl | omega | (simp only [go_sem] <;> omega) | fail) only [go_sem] <;> try with_reducible rfl) | apply Wp.block | apply Wp.exitS | apply Wp.retS | apply Wp.exit | apply Wp.ret | apply Wp.skip)
  apply Wp.loopF ps.length (fun i => ⟨[(0, .yieldT 200000), (1, .iptr (.agg [.list 1 (nsL ps)]) 0), (2, .iptr (.agg [iv 2]) 0), (4, iv (2 * (i : Int)))], [(200000, .num 3500000), (3500000, .log none (xs ++ chV (ps.take i)))], [(200000, none)], 10000000⟩) (fun _ => True)
  · simp -implicitDefEqProofs (maxSteps := 2000000) (disch := first | exact tt_rfl rfl | omega | (simp only [go_sem] <;> omega) | fail) only [go_sem, norm_eq, Ok.some]
    simp [chV]
  · trivial
  intro i hi _
  by_cases hlt : i < ps.length
  · have hat := nsL_at hlt
    have hm : min 2 ((min (((2 * ps.length : Nat) : Int) - 2 * (i : Int)).toNat (2 * ps.length - (2 * (i : Int)).toNat) : Nat) : Int) = 2 := by omega
    have hd : ((nsL ps).drop (2 * (i : Int)).toNat).take (2 * (i : Int) + 2 - 2 * (i : Int)).toNat = [iv ps[i].1, iv ps[i].2] := by
      rw [show (2 * (i : Int)).toNat = 2 * i by omega, show (2 * (i : Int) + 2 - 2 * (i : Int)).toNat = 2 by omega, hat]; rfl
    repeat (first | apply Wp.seqA | apply Wp.skipS | apply Wp.blockS | ((first | apply Wp.regS | apply Wp.condV | apply Wp.reg | apply Wp.condW | apply fin_ret); simp -implicitDefEqProofs (maxSteps := 2000000) (disch := first | exact tt_rfl rfl | omega | (simp only [go_sem] <;> omega) | fail) only [go_sem, hn, show 2 * (i : Int) < ((2 * ps.length : Nat) : Int) by omega, hm, hd] <;> try with_reducible rfl) | apply Wp.block | apply Wp.exitS | apply Wp.retS | apply Wp.exit | apply Wp.ret | apply Wp.skip)
    apply round_next
    · simp -implicitDefEqProofs (maxSteps := 2000000) (disch := first | exact tt_rfl rfl | omega | (simp only [go_sem] <;> omega) | fail) only [go_sem, norm_eq, Ok.some]; with_reducible rfl
    refine ⟨hlt, ?_, trivial⟩
    have e : chV (ps.take (i + 1)) = chV (ps.take i) ++ [[.list 1 [iv ps[i].1, iv ps[i].2]]] := by
      rw [List.take_succ_eq_append_getElem hlt]; unfold chV; rw [List.map_append]; rfl
    rw [e, show ((i + 1 : Nat) : Int) = (i : Int) + 1 by omega, Int.mul_add]
    simp
  · obtain rfl : i = ps.length := by omega
    repeat (first | apply Wp.seqA | apply Wp.skipS | apply Wp.blockS | ((first | apply Wp.regS | apply Wp.condV | apply Wp.reg | apply Wp.condW | apply fin_ret); simp -implicitDefEqProofs (maxSteps := 2000000) (disch := first | exact tt_rfl rfl | omega | (simp only [go_sem] <;> omega) | fail) only [go_sem, hn, show ¬ 2 * (ps.length : Int) < ((2 * ps.length : Nat) : Int) by omega, List.take_length] <;> try with_reducible rfl) | apply Wp.block | apply Wp.exitS | apply Wp.retS | apply Wp.exit | apply Wp.ret | apply Wp.skip)

theorem beqL_map {α : Type} (f : α → AV) (h : ∀ x, AV.beq (f x) (f x) = true) (l : List α) : AV.beqL (l.map f) (l.map f) = true := by
  induction l with
  | nil => rfl
  | cons a l ih => simp only [List.map_cons, AV.beqL, h a, ih, Bool.and_self]
theorem beq_iv (n : Int) : AV.beq (iv n) (iv n) = true := by simp [AV.beq]
theorem chunk_check (ps : List P2) (hl : ps.length ≤ 1000) : lim F 122 [.ylog (some 0) (chV ps), .iptr (.agg [.list 1 (nsL ps)]) 0, .iptr (.agg [iv 2]) 0] = some (.tuple [], [.ylog (some 0) []]) := by
  have hn := nsL_len ps
  refine lim_by (fn := a122) (k := 3) (res := []) rfl rfl rfl (by simp -implicitDefEqProofs (maxSteps := 2000000) (disch := first | exact tt_rfl rfl | omega | (simp only [go_sem] <;> omega) | fail) only [go_sem]) ?_
  simp -implicitDefEqProofs (maxSteps := 2000000) (disch := first | exact tt_rfl rfl | omega | (simp only [go_sem] <;> omega) | fail) only [go_sem]
  repeat (first | apply Wp.seqA | apply Wp.skipS | apply Wp.blockS | ((first | apply Wp.regS | apply Wp.condV | apply Wp.reg | apply Wp.condW | apply fin_ret); simp -implicitDefEqProofs (maxSteps := 2000000) (disch := first | exact tt_rfl rfl | omega | (simp only [go_sem] <;> omega) | fail) only [go_sem] <;> try with_reducible rfl) | apply Wp.block | apply Wp.exitS | apply Wp.retS | apply Wp.exit | apply Wp.ret | apply Wp.skip)
  apply Wp.loopF ps.length (fun i => ⟨[(0, .yieldT 200000), (1, .iptr (.agg [.list 1 (nsL ps)]) 0), (2, .iptr (.agg [iv 2]) 0), (4, iv (2 * (i : Int)))], [(200000, .num 3500000), (3500000, .log (some 0) (chV (ps.drop i)))], [(200000, none)], 10000000⟩) (fun _ => True)
  · simp -implicitDefEqProofs (maxSteps := 2000000) (disch := first | exact tt_rfl rfl | omega | (simp only [go_sem] <;> omega) | fail) only [go_sem, norm_eq, Ok.some]
    simp
  · trivial
  intro i hi _
  by_cases hlt : i < ps.length
  · have hat := nsL_at hlt
    have hm : min 2 ((min (((2 * ps.length : Nat) : Int) - 2 * (i : Int)).toNat (2 * ps.length - (2 * (i : Int)).toNat) : Nat) : Int) = 2 := by omega
    have hd : ((nsL ps).drop (2 * (i : Int)).toNat).take (2 * (i : Int) + 2 - 2 * (i : Int)).toNat = [iv ps[i].1, iv ps[i].2] := by
      rw [show (2 * (i : Int)).toNat = 2 * i by omega, show (2 * (i : Int) + 2 - 2 * (i : Int)).toNat = 2 by omega, hat]; rfl
    have e : chV (ps.drop i) = [.list 1 [iv ps[i].1, iv ps[i].2]] :: chV (ps.drop (i + 1)) := by
      rw [List.drop_eq_getElem_cons hlt]; rfl
    have hb : AV.beqL [.list 1 [iv ps[i].1, iv ps[i].2]] [.list 1 [iv ps[i].1, iv ps[i].2]] = true := by simp [AV.beqL, AV.beq]
    repeat (first | apply Wp.seqA | apply Wp.skipS | apply Wp.blockS | ((first | apply Wp.regS | apply Wp.condV | apply Wp.reg | apply Wp.condW | apply fin_ret); simp -implicitDefEqProofs (maxSteps := 2000000) (disch := first | exact tt_rfl rfl | omega | (simp only [go_sem] <;> omega) | fail) only [go_sem, hn, show 2 * (i : Int) < ((2 * ps.length : Nat) : Int) by omega, hm, hd, e, hb] <;> try with_reducible rfl) | apply Wp.block | apply Wp.exitS | apply Wp.retS | apply Wp.exit | apply Wp.ret | apply Wp.skip)
    apply round_next
    · simp -implicitDefEqProofs (maxSteps := 2000000) (disch := first | exact tt_rfl rfl | omega | (simp only [go_sem] <;> omega) | fail) only [go_sem, norm_eq, Ok.some]; with_reducible rfl
    refine ⟨hlt, ?_, trivial⟩
    rw [show ((i + 1 : Nat) : Int) = (i : Int) + 1 by omega, Int.mul_add]
    simp
  · obtain rfl : i = ps.length := by omega
    have e : chV (ps.drop ps.length) = [] := by rw [List.drop_length]; rfl
    repeat (first | apply Wp.seqA | apply Wp.skipS | apply Wp.blockS | ((first | apply Wp.regS | apply Wp.condV | apply Wp.reg | apply Wp.condW | apply fin_ret); simp -implicitDefEqProofs (maxSteps := 2000000) (disch := first | exact tt_rfl rfl | omega | (simp only [go_sem] <;> omega) | fail) only [go_sem, hn, show ¬ 2 * (ps.length : Int) < ((2 * ps.length : Nat) : Int) by omega, e] <;> try with_reducible rfl) | apply Wp.block | apply Wp.exitS | apply Wp.retS | apply Wp.exit | apply Wp.ret | apply Wp.skip)

theorem chunk_ok (es : List AV) : lim F 106 [.list 1 es, iv 2] = some (.func 122 [.iptr (.agg [.list 1 es]) 0, .iptr (.agg [iv 2]) 0], []) := by
  refine lim_by (fn := a106) (k := 2) (res := [.tmp 4]) rfl rfl rfl (by simp -implicitDefEqProofs (maxSteps := 2000000) (disch := first | exact tt_rfl rfl | omega | (simp only [go_sem] <;> omega) | fail) only [go_sem]) ?_
  simp -implicitDefEqProofs (maxSteps := 2000000) (disch := first | exact tt_rfl rfl | omega | (simp only [go_sem] <;> omega) | fail) only [go_sem]
  repeat (first | apply Wp.seqA | apply Wp.skipS | apply Wp.blockS | ((first | apply Wp.regS | apply Wp.condV | apply Wp.reg | apply Wp.condW | apply fin_ret); simp -implicitDefEqProofs (maxSteps := 2000000) (disch := first | exact tt_rfl rfl | omega | (simp only [go_sem] <;> omega) | fail) only [go_sem] <;> try with_reducible rfl) | apply Wp.block | apply Wp.exitS | apply Wp.retS | apply Wp.exit | apply Wp.ret | apply Wp.skip)


/-! ### What some wheels take up -/

structure WheelA where
  t : TakeA
  shop : List Int
  ps : List P2
def WheelA.cells (w : WheelA) : List AV := [iv w.t.rat, iv w.t.step, .list 2 (w.t.pairs.map PairT.av), iv w.t.round, .list 1 (w.shop.map fun n => iv n), .list 1 (nsL w.ps)]
def WheelA.av (w : WheelA) : AV := .agg w.cells
def shopAt (shop : List Int) (n : Int) : Int := shop.getD n.toNat 0
def wheelT (w : WheelA) : TakeA := ⟨w.t.rat, w.t.step, w.ps.map fun p => ⟨shopAt w.shop p.1, shopAt w.shop p.2⟩, w.t.round⟩
abbrev WheelA.In (w : WheelA) : Prop := ∀ p ∈ w.ps, (0 ≤ p.1 ∧ p.1 < w.shop.length) ∧ (0 ≤ p.2 ∧ p.2 < w.shop.length)

theorem wheelTake_ok (w : WheelA) (hin : w.In) (hl : w.ps.length ≤ 2) (hs : w.shop.length ≤ 1000) (hc : checkT (wheelT w) = 0) : lim F 71 [w.av] = some (takeV (wheelT w), []) := by
  have h1 := chunk_ok (nsL w.ps)
  have h2 := chunk_guess w.ps [] (by omega)
  have h3 := chunk_check w.ps (by omega)
  have h4 := taken_ok (wheelT w) hc
  rw [List.nil_append] at h2
  unfold TakeA.av takeV at h4
  unfold WheelA.av WheelA.cells takeV
  refine lim_by (fn := a71) (k := 1) (res := [.cell 2 2 true]) rfl rfl rfl (by simp -implicitDefEqProofs (maxSteps := 2000000) (disch := first | exact tt_rfl rfl | omega | (simp only [go_sem] <;> omega) | fail) only [go_sem]) ?_
  simp -implicitDefEqProofs (maxSteps := 2000000) (disch := first | exact tt_rfl rfl | omega | (simp only [go_sem] <;> omega) | fail) only [go_sem]
  repeat (first | apply Wp.seqA | apply Wp.skipS | apply Wp.blockS | ((first | apply Wp.regS | apply Wp.condV | apply Wp.reg | apply Wp.condW | apply fin_ret); simp -implicitDefEqProofs (maxSteps := 2000000) (disch := first | exact tt_rfl rfl | omega | (simp only [go_sem] <;> omega) | fail) only [go_sem, h1] <;> try with_reducible rfl) | apply Wp.block | apply Wp.exitS | apply Wp.retS | apply Wp.exit | apply Wp.ret | apply Wp.skip)
  refine Wp.rangeF (fun i fr => fr = ⟨[(1, .ptr 64 0 0), (2, .ptr 128 0 0), (3, .ptr 192 0 0)], [(64, .box [iv w.t.rat, iv w.t.step, .list 2 (w.t.pairs.map PairT.av), iv w.t.round, .list 1 (w.shop.map fun n => iv n), .list 1 (nsL w.ps)]), (128, .box [iv 0, iv 0]), (192, .box [iv w.t.rat, iv w.t.step, .slice 303074 0 i, iv w.t.round]), (303074, .arr 2 (((wheelT w).pairs.take i).map PairT.av))], [], 10000000⟩) rfl rfl h2 h3 ?_ ?_ ?_
  · simp -implicitDefEqProofs (maxSteps := 2000000) (disch := first | exact tt_rfl rfl | omega | (simp only [go_sem] <;> omega) | fail) only [go_sem, norm_eq, Ok.some]
    try rfl
  · rintro i x fr hx rfl
    have hlt : i < w.ps.length := by
      rcases Nat.lt_or_ge i w.ps.length with h | h
      · exact h
      · rw [List.getElem?_eq_none (by simpa [chV] using h)] at hx; cases hx
    have ex : x = [.list 1 [iv w.ps[i].1, iv w.ps[i].2]] := by
      unfold chV at hx
      rw [List.getElem?_map, List.getElem?_eq_getElem hlt] at hx
      cases hx; rfl
    subst ex
    refine ⟨_, rfl, ?_⟩
    have hp := hin w.ps[i] (List.getElem_mem hlt)
    have g1 : (w.shop.map fun n => iv n)[w.ps[i].1.toNat]? = some (iv (shopAt w.shop w.ps[i].1)) := by
      rw [List.getElem?_map, List.getElem?_eq_getElem (by omega)]
      simp [shopAt, List.getElem?_eq_getElem (show w.ps[i].1.toNat < w.shop.length by omega)]
    have g2 : (w.shop.map fun n => iv n)[w.ps[i].2.toNat]? = some (iv (shopAt w.shop w.ps[i].2)) := by
      rw [List.getElem?_map, List.getElem?_eq_getElem (by omega)]
      simp [shopAt, List.getElem?_eq_getElem (show w.ps[i].2.toNat < w.shop.length by omega)]
    have hsl : (w.shop.map fun n => iv n).length = w.shop.length := by simp
    have hlen : (((wheelT w).pairs.take i).map PairT.av).length = i := by simp [wheelT]; omega
    have e2 : ((wheelT w).pairs.take (i + 1)).map PairT.av = ((wheelT w).pairs.take i).map PairT.av ++ [.agg [iv (shopAt w.shop w.ps[i].1), iv (shopAt w.shop w.ps[i].2)]] := by
      rw [List.take_succ_eq_append_getElem (by simpa [wheelT] using hlt), List.map_append]
      simp [PairT.av, wheelT]
    generalize ((wheelT w).pairs.take i).map PairT.av = es at *
    generalize shopAt w.shop w.ps[i].1 = s1 at *
    generalize shopAt w.shop w.ps[i].2 = s2 at *
    repeat (first | apply Wp.seqA | apply Wp.skipS | apply Wp.blockS | ((first | apply Wp.regS | apply Wp.condV | apply Wp.reg | apply Wp.condW | apply fin_ret); simp -implicitDefEqProofs (maxSteps := 2000000) (disch := first | exact tt_rfl rfl | omega | (simp only [go_sem] <;> omega) | fail) only [go_sem, hp, hsl, g1, g2, hlen, List.getElem?_cons_zero, List.getElem?_cons_succ] <;> try with_reducible rfl) | apply Wp.block | apply Wp.exitS | apply Wp.retS | apply Wp.exit | apply Wp.ret | apply Wp.skip)
    apply block_norm
    apply round_next
    · simp -implicitDefEqProofs (maxSteps := 2000000) (disch := first | exact tt_rfl rfl | omega | (simp only [go_sem] <;> omega) | fail) only [go_sem, norm_eq, Ok.some]; with_reducible rfl
    rw [e2]
  · rintro fr rfl
    have hch : (chV w.ps).length = w.ps.length := by simp [chV]
    have hpl : (wheelT w).pairs.take w.ps.length = (wheelT w).pairs := List.take_of_length_le (by simp [wheelT])
    have hlen : ((wheelT w).pairs.map PairT.av).length = w.ps.length := by simp [wheelT]
    have etk : ((wheelT w).pairs.map PairT.av).take w.ps.length = (wheelT w).pairs.map PairT.av := List.take_of_length_le (by omega)
    rw [hch, hpl]
    have e1 : (wheelT w).rat = w.t.rat := rfl
    have e3 : (wheelT w).step = w.t.step := rfl
    have e4 : (wheelT w).round = w.t.round := rfl
    rw [e1, e3, e4] at h4
    have hpa : ((wheelT w).pairs.map PairT.av).all AV.plain = true := pairT_plain _
    generalize (wheelT w).pairs.map PairT.av = es at *
    repeat (first | apply Wp.seqA | apply Wp.skipS | apply Wp.blockS | ((first | apply Wp.regS | apply Wp.condV | apply Wp.reg | apply Wp.condW | apply fin_ret); simp -implicitDefEqProofs (maxSteps := 2000000) (disch := first | exact tt_rfl rfl | omega | (simp only [go_sem] <;> omega) | fail) only [go_sem, h4, hlen, etk, hpa] <;> try with_reducible rfl) | apply Wp.block | apply Wp.exitS | apply Wp.retS | apply Wp.exit | apply Wp.ret | apply Wp.skip)
end Go.Abs
