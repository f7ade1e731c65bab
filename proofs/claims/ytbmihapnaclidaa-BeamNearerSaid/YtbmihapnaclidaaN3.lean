/-
  Chapter 6: the wheels with one pair more. No condition beyond those that each theorem names.
-/
import Derived.Test.YtbmihapnaclidaaN1
set_option linter.all false
namespace Go.Abs
set_option maxRecDepth 10000
set_option maxHeartbeats 4000000

def nsI (ps : List P2) : List Int := ps.flatMap fun p => [p.1, p.2]
theorem nsL_map (ps : List P2) : nsL ps = (nsI ps).map fun n => iv n := by
  induction ps with
  | nil => rfl
  | cons p ps ih => simp only [nsL, nsI, List.flatMap_cons, List.map_append, ih]; rfl
theorem nsL_snoc (ps : List P2) (p : P2) : nsL (ps ++ [p]) = nsL ps ++ [iv p.1, iv p.2] := by
  rw [nsL_map, nsL_map]
  simp [nsI]

theorem indexInt_ok (l : List Int) (n : Int) (hl : l.length < 1000000) : lim F 121 [.list 1 (l.map fun n => iv n), iv n] = some (iv (idxF (fun m => decide (n = m)) l), []) := by
  refine lim_by (fn := a121) (k := 2) (res := [.tmp 4]) rfl rfl rfl (by simp -implicitDefEqProofs (maxSteps := 2000000) (disch := first | exact tt_rfl rfl | omega | (simp only [go_sem] <;> omega) | fail) only [go_sem]) ?_
  simp -implicitDefEqProofs (maxSteps := 2000000) (disch := first | exact tt_rfl rfl | omega | (simp only [go_sem] <;> omega) | fail) only [go_sem]
  repeat (first | apply Wp.seqA | apply Wp.skipS | apply Wp.blockS | ((first | apply Wp.regS | apply Wp.condV | apply Wp.reg | apply Wp.condW | apply fin_ret); simp -implicitDefEqProofs (maxSteps := 2000000) (disch := first | exact tt_rfl rfl | omega | (simp only [go_sem] <;> omega) | fail) only [go_sem] <;> try with_reducible rfl) | apply Wp.block | apply Wp.exitS | apply Wp.retS | apply Wp.exit | apply Wp.ret | apply Wp.skip)
  apply Wp.loopF l.length (fun i => ⟨[(0, .list 1 (l.map fun n => iv n)), (1, iv n), (7, iv l.length), (8, iv i)], [], [], 10000000⟩) (fun i => ∀ j (hj : j < l.length), j < i → decide (n = l[j]) = false)
  · simp -implicitDefEqProofs (maxSteps := 2000000) (disch := first | exact tt_rfl rfl | omega | (simp only [go_sem] <;> omega) | fail) only [go_sem, norm_eq, Ok.some]
    try rfl
  · intro j hj h; omega
  intro i hi hn
  by_cases h : i < l.length
  · by_cases hb : n = l[i]
    · have e : idxF (fun m => decide (n = m)) l = i := idxF_at h (decide_eq_true hb) hn
      rw [e]
      repeat (first | apply Wp.seqA | apply Wp.skipS | apply Wp.blockS | ((first | apply Wp.regS | apply Wp.condV | apply Wp.reg | apply Wp.condW | apply fin_ret); simp -implicitDefEqProofs (maxSteps := 2000000) (disch := first | exact tt_rfl rfl | omega | (simp only [go_sem] <;> omega) | fail) only [go_sem, h, List.getElem?_map, List.getElem?_eq_getElem h, Option.map_some, Int.ofNat_lt, eq_true hb] <;> try with_reducible rfl) | apply Wp.block | apply Wp.exitS | apply Wp.retS | apply Wp.exit | apply Wp.ret | apply Wp.skip)
    · repeat (first | apply Wp.seqA | apply Wp.skipS | apply Wp.blockS | ((first | apply Wp.regS | apply Wp.condV | apply Wp.reg | apply Wp.condW | apply fin_ret); simp -implicitDefEqProofs (maxSteps := 2000000) (disch := first | exact tt_rfl rfl | omega | (simp only [go_sem] <;> omega) | fail) only [go_sem, h, List.getElem?_map, List.getElem?_eq_getElem h, Option.map_some, Int.ofNat_lt, hb] <;> try with_reducible rfl) | apply Wp.block | apply Wp.exitS | apply Wp.retS | apply Wp.exit | apply Wp.ret | apply Wp.skip)
      apply round_next
      · simp -implicitDefEqProofs (maxSteps := 2000000) (disch := first | exact tt_rfl rfl | omega | (simp only [go_sem] <;> omega) | fail) only [go_sem, norm_eq, Ok.some]; with_reducible rfl
      refine ⟨h, by simp, fun j hj hji => ?_⟩
      by_cases e : j = i
      · subst e; exact decide_eq_false hb
      · exact hn j hj (by omega)
  · repeat (first | apply Wp.seqA | apply Wp.skipS | apply Wp.blockS | ((first | apply Wp.regS | apply Wp.condV | apply Wp.reg | apply Wp.condW | apply fin_ret); simp -implicitDefEqProofs (maxSteps := 2000000) (disch := first | exact tt_rfl rfl | omega | (simp only [go_sem] <;> omega) | fail) only [go_sem, h, Int.ofNat_lt] <;> try with_reducible rfl) | apply Wp.block | apply Wp.exitS | apply Wp.retS | apply Wp.exit | apply Wp.ret | apply Wp.skip)
    rw [idxF_no fun j hj => hn j hj (by omega)]
theorem containsInt_ok (l : List Int) (n : Int) (hl : l.length < 1000000) : lim F 104 [.list 1 (l.map fun n => iv n), iv n] = some (.bool (l.any fun m => decide (n = m)), []) := by
  have h := indexInt_ok l n hl
  refine lim_by (fn := a104) (k := 2) (res := [.tmp 4]) rfl rfl rfl (by simp -implicitDefEqProofs (maxSteps := 2000000) (disch := first | exact tt_rfl rfl | omega | (simp only [go_sem] <;> omega) | fail) only [go_sem]) ?_
  simp -implicitDefEqProofs (maxSteps := 2000000) (disch := first | exact tt_rfl rfl | omega | (simp only [go_sem] <;> omega) | fail) only [go_sem]
  repeat (first | apply Wp.seqA | apply Wp.skipS | apply Wp.blockS | ((first | apply Wp.regS | apply Wp.condV | apply Wp.reg | apply Wp.condW | apply fin_ret); simp -implicitDefEqProofs (maxSteps := 2000000) (disch := first | exact tt_rfl rfl | omega | (simp only [go_sem] <;> omega) | fail) only [go_sem, h, idxF_ge] <;> try with_reducible rfl) | apply Wp.block | apply Wp.exitS | apply Wp.retS | apply Wp.exit | apply Wp.ret | apply Wp.skip)
theorem clip_ok (es : List AV) (hl : es.length < 1000000) : lim F 105 [.list 1 es] = some (.clip 1 es, []) := by
  refine lim_by (fn := a105) (k := 1) (res := [.tmp 2]) rfl rfl rfl (by simp -implicitDefEqProofs (maxSteps := 2000000) (disch := first | exact tt_rfl rfl | omega | (simp only [go_sem] <;> omega) | fail) only [go_sem]) ?_
  simp -implicitDefEqProofs (maxSteps := 2000000) (disch := first | exact tt_rfl rfl | omega | (simp only [go_sem] <;> omega) | fail) only [go_sem]
  repeat (first | apply Wp.seqA | apply Wp.skipS | apply Wp.blockS | ((first | apply Wp.regS | apply Wp.condV | apply Wp.reg | apply Wp.condW | apply fin_ret); simp -implicitDefEqProofs (maxSteps := 2000000) (disch := first | exact tt_rfl rfl | omega | (simp only [go_sem] <;> omega) | fail) only [go_sem] <;> try with_reducible rfl) | apply Wp.block | apply Wp.exitS | apply Wp.retS | apply Wp.exit | apply Wp.ret | apply Wp.skip)
  rw [show ((es.length : Int) - 0).toNat = es.length by omega, List.take_length]

/-- with one pair more -/
def extW (w : WheelA) (a b : Nat) : WheelA := ⟨w.t, w.shop, w.ps ++ [((a : Int), (b : Int))]⟩
def okW (w : WheelA) (a b : Nat) : Bool := !(decide (a = b) || (nsI w.ps).any (fun m => decide ((a : Int) = m)) || (nsI w.ps).any fun m => decide ((b : Int) = m))
def moreIn (w : WheelA) (l : List Nat) (a : Nat) : List WheelA := (l.filter (okW w a)).map (extW w a)
def moreL (w : WheelA) : List WheelA := (List.range w.shop.length).flatMap (moreIn w (List.range w.shop.length))
def wV (l : List WheelA) : List (List AV) := l.map fun w => [w.av]
theorem wheel_beq (w : WheelA) : AV.beqL [w.av] [w.av] = true := by
  have h1 := beqL_map PairT.av (fun p => by simp [PairT.av, AV.beq, AV.beqL]) w.t.pairs
  have h2 := beqL_map (fun n : Int => iv n) beq_iv w.shop
  have h3 := beqL_map (fun n : Int => iv n) beq_iv (nsI w.ps)
  unfold WheelA.av WheelA.cells
  rw [nsL_map]
  simp only [AV.beqL, AV.beq, h1, h2, h3, decide_true, Bool.and_self]

theorem nsI_len (ps : List P2) : (nsI ps).length = 2 * ps.length := by
  have := nsL_len ps
  rw [nsL_map, List.length_map] at this
  exact this
theorem take_range_succ {N a : Nat} (h : a < N) : (List.range N).take (a + 1) = (List.range N).take a ++ [a] := by
  rw [List.take_succ_eq_append_getElem (by simpa using h), List.getElem_range]
theorem drop_range {N a : Nat} (h : a < N) : (List.range N).drop a = a :: (List.range N).drop (a + 1) := by
  rw [List.drop_eq_getElem_cons (by simpa using h), List.getElem_range]
theorem wV_append (l m : List WheelA) : wV (l ++ m) = wV l ++ wV m := by unfold wV; rw [List.map_append]

theorem more_ok (w : WheelA) : lim F 70 [w.av] = some (.func 103 [.iptr w.av 0], []) := by
  unfold WheelA.av WheelA.cells
  refine lim_by (fn := a70) (k := 1) (res := [.tmp 2]) rfl rfl rfl (by simp -implicitDefEqProofs (maxSteps := 2000000) (disch := first | exact tt_rfl rfl | omega | (simp only [go_sem] <;> omega) | fail) only [go_sem]) ?_
  simp -implicitDefEqProofs (maxSteps := 2000000) (disch := first | exact tt_rfl rfl | omega | (simp only [go_sem] <;> omega) | fail) only [go_sem]
  repeat (first | apply Wp.seqA | apply Wp.skipS | apply Wp.blockS | ((first | apply Wp.regS | apply Wp.condV | apply Wp.reg | apply Wp.condW | apply fin_ret); simp -implicitDefEqProofs (maxSteps := 2000000) (disch := first | exact tt_rfl rfl | omega | (simp only [go_sem] <;> omega) | fail) only [go_sem] <;> try with_reducible rfl) | apply Wp.block | apply Wp.exitS | apply Wp.retS | apply Wp.exit | apply Wp.ret | apply Wp.skip)

theorem more_guess (w : WheelA) (hp : w.ps.length ≤ 100) (hs : w.shop.length ≤ 1000) (xs : List (List AV)) : lim F 103 [.ylog none xs, .iptr w.av 0] = some (.tuple [], [.ylog none (xs ++ wV (moreL w))]) := by
  have hni : (nsI w.ps).length < 1000000 := by rw [nsI_len]; omega
  have k1 := fun n => containsInt_ok (nsI w.ps) n hni
  have k2 := clip_ok (nsL w.ps) (by rw [nsL_map, List.length_map]; exact hni)
  have hnl := nsL_len w.ps
  rw [← nsL_map] at k1
  have hsl : (w.shop.map fun n => iv n).length = w.shop.length := by simp
  have hwb := fun a b => wheel_beq (extW w a b)
  have hmo : moreL w = (List.range w.shop.length).flatMap (moreIn w (List.range w.shop.length)) := rfl
  have hex : ∀ a b : Nat, (extW w a b).av = .agg [iv w.t.rat, iv w.t.step, .list 2 (w.t.pairs.map PairT.av), iv w.t.round, .list 1 (w.shop.map fun n => iv n), .list 1 (nsL w.ps ++ [iv (a : Int), iv (b : Int)])] := fun a b => by
    unfold WheelA.av WheelA.cells extW; rw [nsL_snoc]
  rw [hmo]
  generalize hN : w.shop.length = N at *
  unfold WheelA.av WheelA.cells
  refine lim_by (fn := a103) (k := 2) (res := []) rfl rfl rfl (by simp -implicitDefEqProofs (maxSteps := 2000000) (disch := first | exact tt_rfl rfl | omega | (simp only [go_sem] <;> omega) | fail) only [go_sem]) ?_
  simp -implicitDefEqProofs (maxSteps := 2000000) (disch := first | exact tt_rfl rfl | omega | (simp only [go_sem] <;> omega) | fail) only [go_sem]
  repeat (first | apply Wp.seqA | apply Wp.skipS | apply Wp.blockS | ((first | apply Wp.regS | apply Wp.condV | apply Wp.reg | apply Wp.condW | apply fin_ret); simp -implicitDefEqProofs (maxSteps := 2000000) (disch := first | exact tt_rfl rfl | omega | (simp only [go_sem] <;> omega) | fail) only [go_sem, hsl] <;> try with_reducible rfl) | apply Wp.block | apply Wp.exitS | apply Wp.retS | apply Wp.exit | apply Wp.ret | apply Wp.skip)
  apply Wp.loopF N (fun a => ⟨[(0, .yieldT 200000), (1, .iptr (.agg [iv w.t.rat, iv w.t.step, .list 2 (w.t.pairs.map PairT.av), iv w.t.round, .list 1 (w.shop.map fun n => iv n), .list 1 (nsL w.ps)]) 0), (7, iv N), (8, iv a)], [(200000, .num 3500000), (3500000, .log none (xs ++ wV (((List.range N).take a).flatMap (moreIn w (List.range N)))))], [(200000, none)], 10000000⟩) (fun _ => True)
  · simp -implicitDefEqProofs (maxSteps := 2000000) (disch := first | exact tt_rfl rfl | omega | (simp only [go_sem] <;> omega) | fail) only [go_sem, norm_eq, Ok.some]
    simp [wV]
  · trivial
  intro a ha _
  by_cases haN : a < N
  · repeat (first | apply Wp.seqA | apply Wp.skipS | apply Wp.blockS | ((first | apply Wp.regS | apply Wp.condV | apply Wp.reg | apply Wp.condW | apply fin_ret); simp -implicitDefEqProofs (maxSteps := 2000000) (disch := first | exact tt_rfl rfl | omega | (simp only [go_sem] <;> omega) | fail) only [go_sem, haN, hsl, Int.ofNat_lt] <;> try with_reducible rfl) | apply Wp.block | apply Wp.exitS | apply Wp.retS | apply Wp.exit | apply Wp.ret | apply Wp.skip)
    apply Wp.loopF N (fun b => ⟨[(0, .yieldT 200000), (1, .iptr (.agg [iv w.t.rat, iv w.t.step, .list 2 (w.t.pairs.map PairT.av), iv w.t.round, .list 1 (w.shop.map fun n => iv n), .list 1 (nsL w.ps)]) 0), (3, iv a), (7, iv N), (8, iv a), (13, iv N), (14, iv b)], [(200000, .num 3500000), (3500000, .log none (xs ++ wV (((List.range N).take a).flatMap (moreIn w (List.range N))) ++ wV (moreIn w ((List.range N).take b) a)))], [(200000, none)], 10000000⟩) (fun _ => True)
    · simp -implicitDefEqProofs (maxSteps := 2000000) (disch := first | exact tt_rfl rfl | omega | (simp only [go_sem] <;> omega) | fail) only [go_sem, norm_eq, Ok.some]
      simp [moreIn, wV]
    · trivial
    intro b hb _
    by_cases hbN : b < N
    · have q1 := k1 a
      have q2 := k1 b
      by_cases c1 : a = b
      · have hno : okW w a b = false := by simp [okW, c1]
        have hin : moreIn w ((List.range N).take (b + 1)) a = moreIn w ((List.range N).take b) a := by rw [take_range_succ hbN]; unfold moreIn; rw [List.filter_append, List.filter_cons_of_neg (by rw [hno]; simp)]; simp
        repeat (first | apply Wp.seqA | apply Wp.skipS | apply Wp.blockS | ((first | apply Wp.regS | apply Wp.condV | apply Wp.reg | apply Wp.condW | apply fin_ret); simp -implicitDefEqProofs (maxSteps := 2000000) (disch := first | exact tt_rfl rfl | omega | (simp only [go_sem] <;> omega) | fail) only [go_sem, haN, hbN, Int.ofNat_lt, eq_true (show (a : Int) = b by omega)] <;> try with_reducible rfl) | apply Wp.block | apply Wp.exitS | apply Wp.retS | apply Wp.exit | apply Wp.ret | apply Wp.skip)
        apply round_next
        · simp -implicitDefEqProofs (maxSteps := 2000000) (disch := first | exact tt_rfl rfl | omega | (simp only [go_sem] <;> omega) | fail) only [go_sem, norm_eq, Ok.some]; with_reducible rfl
        exact ⟨hbN, by rw [hin]; simp, trivial⟩
      · have c1' : ¬ (a : Int) = b := by omega
        cases e1 : (nsI w.ps).any fun m => decide ((a : Int) = m) with
        | true =>
          rw [e1] at q1
          have hno : okW w a b = false := by simp only [okW, e1]; simp
          have hin : moreIn w ((List.range N).take (b + 1)) a = moreIn w ((List.range N).take b) a := by rw [take_range_succ hbN]; unfold moreIn; rw [List.filter_append, List.filter_cons_of_neg (by rw [hno]; simp)]; simp
          repeat (first | apply Wp.seqA | apply Wp.skipS | apply Wp.blockS | ((first | apply Wp.regS | apply Wp.condV | apply Wp.reg | apply Wp.condW | apply fin_ret); simp -implicitDefEqProofs (maxSteps := 2000000) (disch := first | exact tt_rfl rfl | omega | (simp only [go_sem] <;> omega) | fail) only [go_sem, haN, hbN, Int.ofNat_lt, c1', q1] <;> try with_reducible rfl) | apply Wp.block | apply Wp.exitS | apply Wp.retS | apply Wp.exit | apply Wp.ret | apply Wp.skip)
          apply round_next
          · simp -implicitDefEqProofs (maxSteps := 2000000) (disch := first | exact tt_rfl rfl | omega | (simp only [go_sem] <;> omega) | fail) only [go_sem, norm_eq, Ok.some]; with_reducible rfl
          exact ⟨hbN, by rw [hin]; simp, trivial⟩
        | false =>
          rw [e1] at q1
          cases e2 : (nsI w.ps).any fun m => decide ((b : Int) = m) with
          | true =>
            rw [e2] at q2
            have hno : okW w a b = false := by simp only [okW, e2]; simp
            have hin : moreIn w ((List.range N).take (b + 1)) a = moreIn w ((List.range N).take b) a := by rw [take_range_succ hbN]; unfold moreIn; rw [List.filter_append, List.filter_cons_of_neg (by rw [hno]; simp)]; simp
            repeat (first | apply Wp.seqA | apply Wp.skipS | apply Wp.blockS | ((first | apply Wp.regS | apply Wp.condV | apply Wp.reg | apply Wp.condW | apply fin_ret); simp -implicitDefEqProofs (maxSteps := 2000000) (disch := first | exact tt_rfl rfl | omega | (simp only [go_sem] <;> omega) | fail) only [go_sem, haN, hbN, Int.ofNat_lt, c1', q1, q2] <;> try with_reducible rfl) | apply Wp.block | apply Wp.exitS | apply Wp.retS | apply Wp.exit | apply Wp.ret | apply Wp.skip)
            apply round_next
            · simp -implicitDefEqProofs (maxSteps := 2000000) (disch := first | exact tt_rfl rfl | omega | (simp only [go_sem] <;> omega) | fail) only [go_sem, norm_eq, Ok.some]; with_reducible rfl
            exact ⟨hbN, by rw [hin]; simp, trivial⟩
          | false =>
            rw [e2] at q2
            have hyes : okW w a b = true := by simp [okW, e1, e2, c1]
            have hin : wV (moreIn w ((List.range N).take (b + 1)) a) = wV (moreIn w ((List.range N).take b) a) ++ [[(extW w a b).av]] := by rw [take_range_succ hbN]; unfold moreIn; rw [List.filter_append, List.map_append, wV_append, List.filter_cons_of_pos hyes]; rfl
            rw [hex] at hin
            have etk : (nsL w.ps ++ [iv (a : Int), iv (b : Int)]).take (2 * w.ps.length + 2) = nsL w.ps ++ [iv (a : Int), iv (b : Int)] := List.take_of_length_le (by rw [List.length_append, hnl]; simp)
            repeat (first | apply Wp.seqA | apply Wp.skipS | apply Wp.blockS | ((first | apply Wp.regS | apply Wp.condV | apply Wp.reg | apply Wp.condW | apply fin_ret); simp -implicitDefEqProofs (maxSteps := 2000000) (disch := first | exact tt_rfl rfl | omega | (simp only [go_sem] <;> omega) | fail) only [go_sem, haN, hbN, Int.ofNat_lt, c1', q1, q2, k2, hnl, etk, hsl] <;> try with_reducible rfl) | apply Wp.block | apply Wp.exitS | apply Wp.retS | apply Wp.exit | apply Wp.ret | apply Wp.skip)
            apply round_next
            · simp -implicitDefEqProofs (maxSteps := 2000000) (disch := first | exact tt_rfl rfl | omega | (simp only [go_sem] <;> omega) | fail) only [go_sem, norm_eq, Ok.some]; with_reducible rfl
            exact ⟨hbN, by rw [hin]; simp, trivial⟩
    · obtain rfl : b = N := by omega
      repeat (first | apply Wp.seqA | apply Wp.skipS | apply Wp.blockS | ((first | apply Wp.regS | apply Wp.condV | apply Wp.reg | apply Wp.condW | apply fin_ret); simp -implicitDefEqProofs (maxSteps := 2000000) (disch := first | exact tt_rfl rfl | omega | (simp only [go_sem] <;> omega) | fail) only [go_sem, Int.lt_irrefl, Int.ofNat_lt] <;> try with_reducible rfl) | apply Wp.block | apply Wp.exitS | apply Wp.retS | apply Wp.exit | apply Wp.ret | apply Wp.skip)
      apply round_next
      · simp -implicitDefEqProofs (maxSteps := 2000000) (disch := first | exact tt_rfl rfl | omega | (simp only [go_sem] <;> omega) | fail) only [go_sem, norm_eq, Ok.some]; with_reducible rfl
      refine ⟨haN, ?_, trivial⟩
      rw [take_range_succ haN, List.flatMap_append, wV_append, show (List.range b).take b = List.range b from List.take_of_length_le (by simp)]; simp
  · obtain rfl : a = N := by omega
    repeat (first | apply Wp.seqA | apply Wp.skipS | apply Wp.blockS | ((first | apply Wp.regS | apply Wp.condV | apply Wp.reg | apply Wp.condW | apply fin_ret); simp -implicitDefEqProofs (maxSteps := 2000000) (disch := first | exact tt_rfl rfl | omega | (simp only [go_sem] <;> omega) | fail) only [go_sem, Int.lt_irrefl] <;> try with_reducible rfl) | apply Wp.block | apply Wp.exitS | apply Wp.retS | apply Wp.exit | apply Wp.ret | apply Wp.skip)
    rw [show (List.range a).take a = List.range a from List.take_of_length_le (by simp)]

theorem more_check (w : WheelA) (hp : w.ps.length ≤ 100) (hs : w.shop.length ≤ 1000) : lim F 103 [.ylog (some 0) (wV (moreL w)), .iptr w.av 0] = some (.tuple [], [.ylog (some 0) []]) := by
  have hni : (nsI w.ps).length < 1000000 := by rw [nsI_len]; omega
  have k1 := fun n => containsInt_ok (nsI w.ps) n hni
  have k2 := clip_ok (nsL w.ps) (by rw [nsL_map, List.length_map]; exact hni)
  have hnl := nsL_len w.ps
  rw [← nsL_map] at k1
  have hsl : (w.shop.map fun n => iv n).length = w.shop.length := by simp
  have hwb := fun a b => wheel_beq (extW w a b)
  have hmo : moreL w = (List.range w.shop.length).flatMap (moreIn w (List.range w.shop.length)) := rfl
  have hex : ∀ a b : Nat, (extW w a b).av = .agg [iv w.t.rat, iv w.t.step, .list 2 (w.t.pairs.map PairT.av), iv w.t.round, .list 1 (w.shop.map fun n => iv n), .list 1 (nsL w.ps ++ [iv (a : Int), iv (b : Int)])] := fun a b => by
    unfold WheelA.av WheelA.cells extW; rw [nsL_snoc]
  rw [hmo]
  generalize hN : w.shop.length = N at *
  unfold WheelA.av WheelA.cells
  refine lim_by (fn := a103) (k := 2) (res := []) rfl rfl rfl (by simp -implicitDefEqProofs (maxSteps := 2000000) (disch := first | exact tt_rfl rfl | omega | (simp only [go_sem] <;> omega) | fail) only [go_sem]) ?_
  simp -implicitDefEqProofs (maxSteps := 2000000) (disch := first | exact tt_rfl rfl | omega | (simp only [go_sem] <;> omega) | fail) only [go_sem]
  repeat (first | apply Wp.seqA | apply Wp.skipS | apply Wp.blockS | ((first | apply Wp.regS | apply Wp.condV | apply Wp.reg | apply Wp.condW | apply fin_ret); simp -implicitDefEqProofs (maxSteps := 2000000) (disch := first | exact tt_rfl rfl | omega | (simp only [go_sem] <;> omega) | fail) only [go_sem, hsl] <;> try with_reducible rfl) | apply Wp.block | apply Wp.exitS | apply Wp.retS | apply Wp.exit | apply Wp.ret | apply Wp.skip)
  apply Wp.loopF N (fun a => ⟨[(0, .yieldT 200000), (1, .iptr (.agg [iv w.t.rat, iv w.t.step, .list 2 (w.t.pairs.map PairT.av), iv w.t.round, .list 1 (w.shop.map fun n => iv n), .list 1 (nsL w.ps)]) 0), (7, iv N), (8, iv a)], [(200000, .num 3500000), (3500000, .log (some 0) (wV (((List.range N).drop a).flatMap (moreIn w (List.range N)))))], [(200000, none)], 10000000⟩) (fun _ => True)
  · simp -implicitDefEqProofs (maxSteps := 2000000) (disch := first | exact tt_rfl rfl | omega | (simp only [go_sem] <;> omega) | fail) only [go_sem, norm_eq, Ok.some]
    simp [wV]
  · trivial
  intro a ha _
  by_cases haN : a < N
  · repeat (first | apply Wp.seqA | apply Wp.skipS | apply Wp.blockS | ((first | apply Wp.regS | apply Wp.condV | apply Wp.reg | apply Wp.condW | apply fin_ret); simp -implicitDefEqProofs (maxSteps := 2000000) (disch := first | exact tt_rfl rfl | omega | (simp only [go_sem] <;> omega) | fail) only [go_sem, haN, hsl, Int.ofNat_lt] <;> try with_reducible rfl) | apply Wp.block | apply Wp.exitS | apply Wp.retS | apply Wp.exit | apply Wp.ret | apply Wp.skip)
    apply Wp.loopF N (fun b => ⟨[(0, .yieldT 200000), (1, .iptr (.agg [iv w.t.rat, iv w.t.step, .list 2 (w.t.pairs.map PairT.av), iv w.t.round, .list 1 (w.shop.map fun n => iv n), .list 1 (nsL w.ps)]) 0), (3, iv a), (7, iv N), (8, iv a), (13, iv N), (14, iv b)], [(200000, .num 3500000), (3500000, .log (some 0) (wV (moreIn w ((List.range N).drop b) a) ++ wV (((List.range N).drop (a + 1)).flatMap (moreIn w (List.range N)))))], [(200000, none)], 10000000⟩) (fun _ => True)
    · simp -implicitDefEqProofs (maxSteps := 2000000) (disch := first | exact tt_rfl rfl | omega | (simp only [go_sem] <;> omega) | fail) only [go_sem, norm_eq, Ok.some]
      rw [drop_range haN, List.flatMap_cons, wV_append]; simp
    · trivial
    intro b hb _
    by_cases hbN : b < N
    · have q1 := k1 a
      have q2 := k1 b
      by_cases c1 : a = b
      · have hno : okW w a b = false := by simp [okW, c1]
        have hin : moreIn w ((List.range N).drop b) a = moreIn w ((List.range N).drop (b + 1)) a := by rw [drop_range hbN]; unfold moreIn; rw [List.filter_cons_of_neg (by rw [hno]; simp)]
        repeat (first | apply Wp.seqA | apply Wp.skipS | apply Wp.blockS | ((first | apply Wp.regS | apply Wp.condV | apply Wp.reg | apply Wp.condW | apply fin_ret); simp -implicitDefEqProofs (maxSteps := 2000000) (disch := first | exact tt_rfl rfl | omega | (simp only [go_sem] <;> omega) | fail) only [go_sem, haN, hbN, Int.ofNat_lt, eq_true (show (a : Int) = b by omega)] <;> try with_reducible rfl) | apply Wp.block | apply Wp.exitS | apply Wp.retS | apply Wp.exit | apply Wp.ret | apply Wp.skip)
        apply round_next
        · simp -implicitDefEqProofs (maxSteps := 2000000) (disch := first | exact tt_rfl rfl | omega | (simp only [go_sem] <;> omega) | fail) only [go_sem, norm_eq, Ok.some]; with_reducible rfl
        exact ⟨hbN, by rw [hin]; simp, trivial⟩
      · have c1' : ¬ (a : Int) = b := by omega
        cases e1 : (nsI w.ps).any fun m => decide ((a : Int) = m) with
        | true =>
          rw [e1] at q1
          have hno : okW w a b = false := by simp only [okW, e1]; simp
          have hin : moreIn w ((List.range N).drop b) a = moreIn w ((List.range N).drop (b + 1)) a := by rw [drop_range hbN]; unfold moreIn; rw [List.filter_cons_of_neg (by rw [hno]; simp)]
          repeat (first | apply Wp.seqA | apply Wp.skipS | apply Wp.blockS | ((first | apply Wp.regS | apply Wp.condV | apply Wp.reg | apply Wp.condW | apply fin_ret); simp -implicitDefEqProofs (maxSteps := 2000000) (disch := first | exact tt_rfl rfl | omega | (simp only [go_sem] <;> omega) | fail) only [go_sem, haN, hbN, Int.ofNat_lt, c1', q1] <;> try with_reducible rfl) | apply Wp.block | apply Wp.exitS | apply Wp.retS | apply Wp.exit | apply Wp.ret | apply Wp.skip)
          apply round_next
          · simp -implicitDefEqProofs (maxSteps := 2000000) (disch := first | exact tt_rfl rfl | omega | (simp only [go_sem] <;> omega) | fail) only [go_sem, norm_eq, Ok.some]; with_reducible rfl
          exact ⟨hbN, by rw [hin]; simp, trivial⟩
        | false =>
          rw [e1] at q1
          cases e2 : (nsI w.ps).any fun m => decide ((b : Int) = m) with
          | true =>
            rw [e2] at q2
            have hno : okW w a b = false := by simp only [okW, e2]; simp
            have hin : moreIn w ((List.range N).drop b) a = moreIn w ((List.range N).drop (b + 1)) a := by rw [drop_range hbN]; unfold moreIn; rw [List.filter_cons_of_neg (by rw [hno]; simp)]
            repeat (first | apply Wp.seqA | apply Wp.skipS | apply Wp.blockS | ((first | apply Wp.regS | apply Wp.condV | apply Wp.reg | apply Wp.condW | apply fin_ret); simp -implicitDefEqProofs (maxSteps := 2000000) (disch := first | exact tt_rfl rfl | omega | (simp only [go_sem] <;> omega) | fail) only [go_sem, haN, hbN, Int.ofNat_lt, c1', q1, q2] <;> try with_reducible rfl) | apply Wp.block | apply Wp.exitS | apply Wp.retS | apply Wp.exit | apply Wp.ret | apply Wp.skip)
            apply round_next
            · simp -implicitDefEqProofs (maxSteps := 2000000) (disch := first | exact tt_rfl rfl | omega | (simp only [go_sem] <;> omega) | fail) only [go_sem, norm_eq, Ok.some]; with_reducible rfl
            exact ⟨hbN, by rw [hin]; simp, trivial⟩
          | false =>
            rw [e2] at q2
            have hyes : okW w a b = true := by simp [okW, e1, e2, c1]
            have hin : wV (moreIn w ((List.range N).drop b) a) = [(extW w a b).av] :: wV (moreIn w ((List.range N).drop (b + 1)) a) := by rw [drop_range hbN]; unfold moreIn; rw [List.filter_cons_of_pos hyes]; rfl
            have hbq := hwb a b
            rw [hex] at hin hbq
            have etk : (nsL w.ps ++ [iv (a : Int), iv (b : Int)]).take (2 * w.ps.length + 2) = nsL w.ps ++ [iv (a : Int), iv (b : Int)] := List.take_of_length_le (by rw [List.length_append, hnl]; simp)
            repeat (first | apply Wp.seqA | apply Wp.skipS | apply Wp.blockS | ((first | apply Wp.regS | apply Wp.condV | apply Wp.reg | apply Wp.condW | apply fin_ret); simp -implicitDefEqProofs (maxSteps := 2000000) (disch := first | exact tt_rfl rfl | omega | (simp only [go_sem] <;> omega) | fail) only [go_sem, haN, hbN, Int.ofNat_lt, c1', q1, q2, k2, hnl, etk, hin, hbq] <;> try with_reducible rfl) | apply Wp.block | apply Wp.exitS | apply Wp.retS | apply Wp.exit | apply Wp.ret | apply Wp.skip)
            apply round_next
            · simp -implicitDefEqProofs (maxSteps := 2000000) (disch := first | exact tt_rfl rfl | omega | (simp only [go_sem] <;> omega) | fail) only [go_sem, norm_eq, Ok.some]; with_reducible rfl
            exact ⟨hbN, by rw [show ((b + 1 : Nat) : Int) = (b : Int) + 1 by omega], trivial⟩
    · obtain rfl : b = N := by omega
      repeat (first | apply Wp.seqA | apply Wp.skipS | apply Wp.blockS | ((first | apply Wp.regS | apply Wp.condV | apply Wp.reg | apply Wp.condW | apply fin_ret); simp -implicitDefEqProofs (maxSteps := 2000000) (disch := first | exact tt_rfl rfl | omega | (simp only [go_sem] <;> omega) | fail) only [go_sem, Int.lt_irrefl, Int.ofNat_lt] <;> try with_reducible rfl) | apply Wp.block | apply Wp.exitS | apply Wp.retS | apply Wp.exit | apply Wp.ret | apply Wp.skip)
      apply round_next
      · simp -implicitDefEqProofs (maxSteps := 2000000) (disch := first | exact tt_rfl rfl | omega | (simp only [go_sem] <;> omega) | fail) only [go_sem, norm_eq, Ok.some]; with_reducible rfl
      refine ⟨haN, ?_, trivial⟩
      rw [show moreIn w ((List.range b).drop b) a = [] by rw [List.drop_eq_nil_of_le (by simp)]; rfl]; simp [wV]
  · obtain rfl : a = N := by omega
    repeat (first | apply Wp.seqA | apply Wp.skipS | apply Wp.blockS | ((first | apply Wp.regS | apply Wp.condV | apply Wp.reg | apply Wp.condW | apply fin_ret); simp -implicitDefEqProofs (maxSteps := 2000000) (disch := first | exact tt_rfl rfl | omega | (simp only [go_sem] <;> omega) | fail) only [go_sem, Int.lt_irrefl, List.drop_length] <;> try with_reducible rfl) | apply Wp.block | apply Wp.exitS | apply Wp.retS | apply Wp.exit | apply Wp.ret | apply Wp.skip)
    rw [show (List.range a).drop a = [] from List.drop_eq_nil_of_le (by simp)]; rfl

end Go.Abs
