/-
  Chapter 6: contracts of weights: which hang on which layers. No condition beyond those that each theorem names.
-/
import Derived.Test.YtbmihapnaclidaaR3
set_option linter.all false
namespace Go.Abs
set_option maxRecDepth 10000
set_option maxHeartbeats 4000000

def holdW (r : RollA) (w : Int) : HoldA := ⟨bearLo r w, (bearHi r w : Int) - 1, w⟩
def holdsOf (r : RollA) (ws : List Int) : List HoldA := ws.map (holdW r)
theorem holdW_in {r : RollA} (h : r.Ok) (w : Int) : (0 ≤ (holdW r w).lo ∧ (holdW r w).lo ≤ 2000) ∧ -1 ≤ (holdW r w).hi ∧ (holdW r w).hi ≤ 1999 := by
  have b := bear_le r w
  have := h.2.2.1
  unfold holdW
  simp only
  omega
theorem holdW_on {r : RollA} (h : r.Ok) (w : Int) (k : Nat) (hk : (k : Int) < r.layers) : (holdW r w).on k ↔ pulls r w k := by
  rw [bear_iff h k hk]
  unfold HoldA.on holdW
  simp only
  omega
theorem holds_pos {r : RollA} (h : r.Ok) (ws : List Int) : Pos (holdsOf r ws) := by
  intro x hx
  obtain ⟨w, _, rfl⟩ := List.mem_map.1 hx
  exact (holdW_in h w).1.1

abbrev WeiOk (w : Int) : Prop := 1 ≤ w ∧ w ≤ 100000
def weiE (r : RollA) (ws : List Int) : Int := if r.Ok then if 20 < ws.length then 5 else if ∀ w ∈ ws, WeiOk w then if covered (holdsOf r ws) r.layers < r.layers.toNat then 9 else 0 else 3 else 2
def weiT (r : RollA) (ws : List Int) : List TurnA := if weiE r ws = 0 then turnsW (holdsOf r ws) r.layers.toNat else []
def weiK (r : RollA) (ws : List Int) : Int := if weiE r ws = 9 then r.layers - 1 - covered (holdsOf r ws) r.layers else 0

theorem cover_all {hs : List HoldA} {L : Int} (h : ¬ covered hs L < L.toNat) : Cover hs L.toNat := by
  intro k hk
  have := firstP_no (p := fun j => !someOn hs (L - 1 - j)) (N := L.toNat) (i := L.toNat - 1 - k) (show _ < covered hs L by omega)
  rw [show L - 1 - ((L.toNat - 1 - k : Nat) : Int) = k by omega] at this
  simpa using this

theorem Weights_ok (r : RollA) (ws : List Int) (hlen : ws.length < 1000000) : lim F 44 [r.av, .list 1 (ws.map fun n => iv n)] = some (.tuple [.own 2 ((weiT r ws).map TurnA.av), iv (weiK r ws), iv (weiE r ws)], []) := by
  have h0 := Roll_ok r
  unfold weiT weiK
  by_cases h : r.Ok
  · rw [show rollE r = 0 from if_pos h] at h0
    by_cases h20 : 20 < ws.length
    · have e : weiE r ws = 5 := by unfold weiE; rw [if_pos h, if_pos h20]
      rw [e, if_neg (by omega), if_neg (by omega)]
      unfold RollA.av RollA.cells at *
      refine lim_by (fn := a44) (k := 2) (res := [.tmp 4, .tmp 5, .tmp 6]) rfl rfl rfl (by simp -implicitDefEqProofs (maxSteps := 2000000) (disch := first | exact tt_rfl rfl | omega | (simp only [go_sem] <;> omega) | fail) only [go_sem]) ?_
      simp -implicitDefEqProofs (maxSteps := 2000000) (disch := first | exact tt_rfl rfl | omega | (simp only [go_sem] <;> omega) | fail) only [go_sem]
      repeat (first | apply Wp.seqA | apply Wp.skipS | apply Wp.blockS | ((first | apply Wp.regS | apply Wp.condV | apply Wp.reg | apply Wp.condW | apply fin_ret); simp -implicitDefEqProofs (maxSteps := 2000000) (disch := first | exact tt_rfl rfl | omega | (simp only [go_sem] <;> omega) | fail) only [go_sem, h0, show (20 : Int) < ws.length by omega, gt_iff_lt] <;> try with_reducible rfl) | apply Wp.block | apply Wp.exitS | apply Wp.retS | apply Wp.exit | apply Wp.ret | apply Wp.skip)
    · have h1 := areWeights_ok ws (by omega)
      by_cases hw : ∀ w ∈ ws, WeiOk w
      · have ea : (ws.all fun n => decide (1 ≤ n ∧ n ≤ 100000)) = true := List.all_eq_true.2 fun n hn => decide_eq_true (hw n hn)
        rw [ea] at h1
        have eE : weiE r ws = if covered (holdsOf r ws) r.layers < r.layers.toNat then 9 else 0 := by unfold weiE; rw [if_pos h, if_neg h20, if_pos hw]
        have hl := h.2.2.1
        have hb := fun w (hm : w ∈ ws) => bears_ok r w h (hw w hm).1 (hw w hm).2
        have hu := uncovered_ok (holdsOf r ws) r.layers (by simp [holdsOf]; omega) hl.1 hl.2
        have hpos := holds_pos h ws
        have hin := holdW_in h
        have hcl := covered_le (holdsOf r ws) r.layers
        unfold RollA.av RollA.cells at *
        refine lim_by (fn := a44) (k := 2) (res := [.tmp 4, .tmp 5, .tmp 6]) rfl rfl rfl (by simp -implicitDefEqProofs (maxSteps := 2000000) (disch := first | exact tt_rfl rfl | omega | (simp only [go_sem] <;> omega) | fail) only [go_sem]) ?_
        simp -implicitDefEqProofs (maxSteps := 2000000) (disch := first | exact tt_rfl rfl | omega | (simp only [go_sem] <;> omega) | fail) only [go_sem]
        repeat (first | apply Wp.seqA | apply Wp.skipS | apply Wp.blockS | ((first | apply Wp.regS | apply Wp.condV | apply Wp.reg | apply Wp.condW | apply fin_ret); simp -implicitDefEqProofs (maxSteps := 2000000) (disch := first | exact tt_rfl rfl | omega | (simp only [go_sem] <;> omega) | fail) only [go_sem, h0, h1, show ¬ (20 : Int) < ws.length by omega, gt_iff_lt] <;> try with_reducible rfl) | apply Wp.block | apply Wp.exitS | apply Wp.retS | apply Wp.exit | apply Wp.ret | apply Wp.skip)
        apply Wp.loopF ws.length (fun i => ⟨[(2, .ptr 128 0 0), (4, .slice 256 0 0), (7, .slice 448 0 i), (28, .list 1 (ws.map fun n => iv n)), (29, iv ws.length), (30, iv i)], [(128, .box [iv r.core, iv r.thick, iv r.layers, iv r.pulley, iv r.plo, iv r.phi]), (256, .arr 2 []), (448, .arr 3 ((holdsOf r (ws.take i)).map HoldA.av))], [], 10000000⟩) (fun _ => True)
        · simp -implicitDefEqProofs (maxSteps := 2000000) (disch := first | exact tt_rfl rfl | omega | (simp only [go_sem] <;> omega) | fail) only [go_sem, norm_eq, Ok.some]
          simp [holdsOf]
        · trivial
        intro i hi _
        have hle : ((holdsOf r (ws.take i)).map HoldA.av).length = i := by simp [holdsOf]; omega
        by_cases hlt : i < ws.length
        · have hbw := hb ws[i] (List.getElem_mem hlt)
          have es : (holdsOf r (ws.take (i + 1))).map HoldA.av = (holdsOf r (ws.take i)).map HoldA.av ++ [.agg [iv (bearLo r ws[i]), iv ((bearHi r ws[i] : Int) - 1), iv ws[i]]] := by
            rw [List.take_succ_eq_append_getElem hlt]
            unfold holdsOf
            rw [List.map_append, List.map_append]
            rfl
          generalize (holdsOf r (ws.take i)).map HoldA.av = xs at *
          repeat (first | apply Wp.seqA | apply Wp.skipS | apply Wp.blockS | ((first | apply Wp.regS | apply Wp.condV | apply Wp.reg | apply Wp.condW | apply fin_ret); simp -implicitDefEqProofs (maxSteps := 2000000) (disch := first | exact tt_rfl rfl | omega | (simp only [go_sem] <;> omega) | fail) only [go_sem, hlt, Int.ofNat_lt, List.getElem?_map, List.getElem?_eq_getElem hlt, Option.map_some, hbw, hle] <;> try with_reducible rfl) | apply Wp.block | apply Wp.exitS | apply Wp.retS | apply Wp.exit | apply Wp.ret | apply Wp.skip)
          apply round_next
          · simp -implicitDefEqProofs (maxSteps := 2000000) (disch := first | exact tt_rfl rfl | omega | (simp only [go_sem] <;> omega) | fail) only [go_sem, norm_eq, Ok.some]; with_reducible rfl
          exact ⟨hlt, by rw [es]; simp, trivial⟩
        · obtain rfl : i = ws.length := by omega
          rw [List.take_length] at hle ⊢
          have etk : ((holdsOf r ws).map HoldA.av).take ws.length = (holdsOf r ws).map HoldA.av := List.take_of_length_le (by omega)
          by_cases hcv : covered (holdsOf r ws) r.layers < r.layers.toNat
          · rw [if_pos hcv] at hu eE
            rw [eE, if_neg (by omega), if_pos rfl]
            generalize covered (holdsOf r ws) r.layers = cv at *
            repeat (first | apply Wp.seqA | apply Wp.skipS | apply Wp.blockS | ((first | apply Wp.regS | apply Wp.condV | apply Wp.reg | apply Wp.condW | apply fin_ret); simp -implicitDefEqProofs (maxSteps := 2000000) (disch := first | exact tt_rfl rfl | omega | (simp only [go_sem] <;> omega) | fail) only [go_sem, Int.lt_irrefl, hle, etk, hu, show r.layers - 1 - (cv : Int) ≥ 0 by omega] <;> try with_reducible rfl) | apply Wp.block | apply Wp.exitS | apply Wp.retS | apply Wp.exit | apply Wp.ret | apply Wp.skip)
          · rw [if_neg hcv] at hu eE
            rw [eE, if_pos rfl, if_neg (by omega)]
            have hc := cover_all hcv
            have hhs : ∀ x ∈ holdsOf r ws, 0 ≤ x.lo ∧ x.lo ≤ 10000 := fun x hx => by
              obtain ⟨w, _, rfl⟩ := List.mem_map.1 hx
              have := (hin w).1
              omega
            have hln : (holdsOf r ws).length = ws.length := by simp [holdsOf]
            generalize holdsOf r ws = hs at *
            repeat (first | apply Wp.seqA | apply Wp.skipS | apply Wp.blockS | ((first | apply Wp.regS | apply Wp.condV | apply Wp.reg | apply Wp.condW | apply fin_ret); simp -implicitDefEqProofs (maxSteps := 2000000) (disch := first | exact tt_rfl rfl | omega | (simp only [go_sem] <;> omega) | fail) only [go_sem, Int.lt_irrefl, hle, etk, hu] <;> try with_reducible rfl) | apply Wp.block | apply Wp.exitS | apply Wp.retS | apply Wp.exit | apply Wp.ret | apply Wp.skip)
            apply Wp.loopM (fun n fr => ∃ ts : List TurnA, fr = ⟨[(4, .slice 256 0 ts.length), (7, .slice 448 0 ws.length), (11, .ptr 704 0 0)], [(256, .arr 2 (ts.map TurnA.av)), (448, .arr 3 (hs.map HoldA.av)), (704, .box [iv ((n : Int) - 1)])], [], 10000000⟩ ∧
              n ≤ r.layers.toNat ∧ ts ++ turnsW hs n = turnsW hs r.layers.toNat)
            · simp -implicitDefEqProofs (maxSteps := 2000000) (disch := first | exact tt_rfl rfl | omega | (simp only [go_sem] <;> omega) | fail) only [go_sem, norm_eq, Ok.some]
              refine ⟨r.layers.toNat, [], ?_, Nat.le_refl _, rfl⟩
              rw [show ((r.layers.toNat : Nat) : Int) = r.layers by omega]
              rfl
            rintro n fr ⟨ts, rfl, hn, hts⟩
            match n, hn, hts with
            | 0, _, hts =>
              rw [turnsW_zero, List.append_nil] at hts
              rw [← hts]
              have htl : (ts.map TurnA.av).length = ts.length := by simp
              repeat (first | apply Wp.seqA | apply Wp.skipS | apply Wp.blockS | ((first | apply Wp.regS | apply Wp.condV | apply Wp.reg | apply Wp.condW | apply fin_ret); simp -implicitDefEqProofs (maxSteps := 2000000) (disch := first | exact tt_rfl rfl | omega | (simp only [go_sem] <;> omega) | fail) only [go_sem, show ¬ ((0 : Nat) : Int) - 1 ≥ 0 by omega, htl] <;> try with_reducible rfl) | apply Wp.block | apply Wp.exitS | apply Wp.retS | apply Wp.exit | apply Wp.ret | apply Wp.skip)
            | n + 1, hn, hts =>
              obtain ⟨e1, b1, b2⟩ := next_le hc hpos (show n < r.layers.toNat by omega)
              have hso := hc n (by omega)
              obtain ⟨p1, p2, p3⟩ := pick_mem hso
              obtain ⟨a0, ha0, hk0⟩ := List.any_eq_true.1 hso
              obtain ⟨g, t, hgt⟩ : ∃ g t, hs = g :: t := by
                cases hs with
                | nil => cases ha0
                | cons g t => exact ⟨g, t, rfl⟩
              have hcl := clone_ok g t (by rw [hgt, List.length_cons] at hln; omega)
              rw [← hgt] at hcl
              have hk : ((n + 1 : Nat) : Int) - 1 = n := by omega
              have hde := delete_ok hs (fun h => decide (h.on n)) 94 (.agg [iv (n : Int)]) (by omega) fun x _ => by rw [wei1_ok, decide_not]
              cases hfl : hs.filter fun h => decide (h.on n) with
              | nil =>
                have : a0 ∈ hs.filter fun h => decide (h.on n) := List.mem_filter.2 ⟨ha0, hk0⟩
                rw [hfl] at this
                cases this
              | cons b u =>
                rw [hfl] at hde
                have hmf := minFunc_ok b u (by
                  have := List.length_filter_le (fun h : HoldA => decide (h.on n)) hs
                  rw [hfl, List.length_cons] at this
                  omega) fun x hx => by
                    rw [← hfl] at hx
                    exact hhs x (List.mem_filter.1 hx).1
                rw [← pick_filter hfl] at hmf
                have et : ts ++ [⟨n, (pick hs n).w⟩] ++ turnsW hs (pick hs n).lo.toNat = turnsW hs r.layers.toNat := by
                  rw [← hts, turnsW_succ, e1, List.append_assoc]; rfl
                rw [hk]
                have htl : (ts.map TurnA.av).length = ts.length := by simp
                have htn : ts.length < 1000000 := by
                  have := turnsW_len hs r.layers.toNat
                  rw [← hts, List.length_append] at this
                  omega
                generalize pick hs n = pk at *
                have hpl : ((b :: u).map HoldA.av).all AV.plain = true := holdA_plain _
                generalize hfm : (b :: u).map HoldA.av = fm at hde hmf hpl
                repeat (first | apply Wp.seqA | apply Wp.skipS | apply Wp.blockS | ((first | apply Wp.regS | apply Wp.condV | apply Wp.reg | apply Wp.condW | apply fin_ret); simp -implicitDefEqProofs (maxSteps := 2000000) (disch := first | exact tt_rfl rfl | omega | (simp only [go_sem] <;> omega) | fail) only [go_sem, show (n : Int) ≥ 0 by omega, etk, hcl, hde, hmf, hpl, hle, htl] <;> try with_reducible rfl) | apply Wp.block | apply Wp.exitS | apply Wp.retS | apply Wp.exit | apply Wp.ret | apply Wp.skip)
                apply round_next (Q := fun _ _ => False)
                · simp -implicitDefEqProofs (maxSteps := 2000000) (disch := first | exact tt_rfl rfl | omega | (simp only [go_sem] <;> omega) | fail) only [go_sem, norm_eq, Ok.some]; with_reducible rfl
                refine ⟨pk.lo.toNat, by omega, ts ++ [⟨n, pk.w⟩], ?_, by omega, et⟩
                rw [show ((pk.lo.toNat : Nat) : Int) = pk.lo by omega, List.map_append, List.length_append]
                simp [TurnA.av]
      · have ea : (ws.all fun n => decide (1 ≤ n ∧ n ≤ 100000)) = false := by
          rw [List.all_eq_false]
          refine Classical.byContradiction fun hne => hw fun w hm => Classical.byContradiction fun hno => hne ⟨w, hm, by simpa using hno⟩
        rw [ea] at h1
        have e : weiE r ws = 3 := by unfold weiE; rw [if_pos h, if_neg h20, if_neg hw]
        rw [e, if_neg (by omega), if_neg (by omega)]
        unfold RollA.av RollA.cells at *
        refine lim_by (fn := a44) (k := 2) (res := [.tmp 4, .tmp 5, .tmp 6]) rfl rfl rfl (by simp -implicitDefEqProofs (maxSteps := 2000000) (disch := first | exact tt_rfl rfl | omega | (simp only [go_sem] <;> omega) | fail) only [go_sem]) ?_
        simp -implicitDefEqProofs (maxSteps := 2000000) (disch := first | exact tt_rfl rfl | omega | (simp only [go_sem] <;> omega) | fail) only [go_sem]
        repeat (first | apply Wp.seqA | apply Wp.skipS | apply Wp.blockS | ((first | apply Wp.regS | apply Wp.condV | apply Wp.reg | apply Wp.condW | apply fin_ret); simp -implicitDefEqProofs (maxSteps := 2000000) (disch := first | exact tt_rfl rfl | omega | (simp only [go_sem] <;> omega) | fail) only [go_sem, h0, h1, show ¬ (20 : Int) < ws.length by omega, gt_iff_lt] <;> try with_reducible rfl) | apply Wp.block | apply Wp.exitS | apply Wp.retS | apply Wp.exit | apply Wp.ret | apply Wp.skip)
  · rw [show rollE r = 2 from if_neg h] at h0
    have e : weiE r ws = 2 := by unfold weiE; rw [if_neg h]
    rw [e, if_neg (by omega), if_neg (by omega)]
    unfold RollA.av RollA.cells at *
    refine lim_by (fn := a44) (k := 2) (res := [.tmp 4, .tmp 5, .tmp 6]) rfl rfl rfl (by simp -implicitDefEqProofs (maxSteps := 2000000) (disch := first | exact tt_rfl rfl | omega | (simp only [go_sem] <;> omega) | fail) only [go_sem]) ?_
    simp -implicitDefEqProofs (maxSteps := 2000000) (disch := first | exact tt_rfl rfl | omega | (simp only [go_sem] <;> omega) | fail) only [go_sem]
    repeat (first | apply Wp.seqA | apply Wp.skipS | apply Wp.blockS | ((first | apply Wp.regS | apply Wp.condV | apply Wp.reg | apply Wp.condW | apply fin_ret); simp -implicitDefEqProofs (maxSteps := 2000000) (disch := first | exact tt_rfl rfl | omega | (simp only [go_sem] <;> omega) | fail) only [go_sem, h0] <;> try with_reducible rfl) | apply Wp.block | apply Wp.exitS | apply Wp.retS | apply Wp.exit | apply Wp.ret | apply Wp.skip)

/-! ### The reference -/

/-- the weight and the layer that the reference has found after some weights -/
def refBest (r : RollA) (k : Nat) (ws : List Int) : Int × Int := ws.foldl (fun b w => let a := if (holdW r w).on k then (holdW r w).lo else (k : Int) + 1; if a < b.2 then (w, a) else b) (0, (k : Int) + 1)
theorem refBest_snoc (r : RollA) (k : Nat) (ws : List Int) (w : Int) : refBest r k (ws ++ [w]) = if (if (holdW r w).on k then (holdW r w).lo else (k : Int) + 1) < (refBest r k ws).2 then (w, if (holdW r w).on k then (holdW r w).lo else (k : Int) + 1) else refBest r k ws := by
  unfold refBest; rw [List.foldl_append]; rfl
theorem refBest_eq (r : RollA) (k : Nat) (ws : List Int) : refBest r k ws = if someOn (holdsOf r ws) k = true then ((pick (holdsOf r ws) k).w, (pick (holdsOf r ws) k).lo) else (0, (k : Int) + 1) := by
  suffices H : ∀ vs : List Int, refBest r k vs.reverse = if someOn (holdsOf r vs.reverse) k = true then ((pick (holdsOf r vs.reverse) k).w, (pick (holdsOf r vs.reverse) k).lo) else (0, (k : Int) + 1) by
    have := H ws.reverse
    rwa [List.reverse_reverse] at this
  intro vs
  induction vs with
  | nil => simp [refBest, holdsOf, someOn]
  | cons w vs ih =>
    rw [List.reverse_cons, refBest_snoc, ih]
    have e1 : holdsOf r (vs.reverse ++ [w]) = holdsOf r vs.reverse ++ [holdW r w] := by unfold holdsOf; rw [List.map_append]; rfl
    have e2 : someOn (holdsOf r vs.reverse ++ [holdW r w]) k = (someOn (holdsOf r vs.reverse) k || decide ((holdW r w).on k)) := by
      unfold someOn; rw [List.any_append]; simp
    rw [e1, e2, pick_snoc]
    have hw : (holdW r w).w = w := rfl
    generalize holdW r w = h at *
    cases hs : someOn (holdsOf r vs.reverse) k with
    | false =>
      have ha : (holdsOf r vs.reverse).any (fun h => decide (h.on k)) = false := hs
      by_cases hon : h.on k
      · have := hon.1
        simp only [if_pos hon, ha, decide_eq_true hon, Bool.false_or, if_true, true_or, Bool.false_eq_true, if_false]
        rw [if_pos (by omega), hw]
      · simp only [if_neg hon, decide_eq_false hon, Bool.false_or, Bool.false_eq_true, if_false]
        rw [if_neg (by omega)]
    | true =>
      have ha : (holdsOf r vs.reverse).any (fun h => decide (h.on k)) = true := hs
      obtain ⟨_, p2, _⟩ := pick_mem hs
      by_cases hon : h.on k
      · simp only [if_pos hon, ha, Bool.true_or, if_true, Bool.true_eq_false, false_or]
        by_cases hl : h.lo < (pick (holdsOf r vs.reverse) k).lo
        · simp only [if_pos hl, hw]
        · simp only [if_neg hl]
      · have := p2.1
        simp only [if_neg hon, Bool.true_or, if_true]
        rw [if_neg (by omega)]

theorem refWeights_ok (r : RollA) (ws : List Int) (h : r.Ok) (hw : ∀ w ∈ ws, WeiOk w) (hlen : ws.length ≤ 20) : lim F 47 [r.av, .list 1 (ws.map fun n => iv n)] = some (.tuple [.own 2 (if covered (holdsOf r ws) r.layers < r.layers.toNat then [] else (turnsW (holdsOf r ws) r.layers.toNat).map TurnA.av), iv (if covered (holdsOf r ws) r.layers < r.layers.toNat then r.layers - 1 - covered (holdsOf r ws) r.layers else 0), .bool (decide (¬ covered (holdsOf r ws) r.layers < r.layers.toNat))], []) := by
  have hl := h.2.2.1
  have hp := fun (w : Int) (hm : w ∈ ws) (k : Nat) (hk : (k : Int) < r.layers) => refPulls_ok r w k ⟨h, (hw w hm).1, (hw w hm).2, by omega, by omega⟩
  have ho := fun (w : Int) (k : Nat) (hk : (k : Int) < r.layers) => holdW_on h w k hk
  have hin := holdW_in h
  have hpos := holds_pos h ws
  unfold RollA.av RollA.cells at *
  refine lim_by (fn := a47) (k := 2) (res := [.tmp 4, .tmp 5, .tmp 6]) rfl rfl rfl (by simp -implicitDefEqProofs (maxSteps := 2000000) (disch := first | exact tt_rfl rfl | omega | (simp only [go_sem] <;> omega) | fail) only [go_sem]) ?_
  simp -implicitDefEqProofs (maxSteps := 2000000) (disch := first | exact tt_rfl rfl | omega | (simp only [go_sem] <;> omega) | fail) only [go_sem]
  repeat (first | apply Wp.seqA | apply Wp.skipS | apply Wp.blockS | ((first | apply Wp.regS | apply Wp.condV | apply Wp.reg | apply Wp.condW | apply fin_ret); simp -implicitDefEqProofs (maxSteps := 2000000) (disch := first | exact tt_rfl rfl | omega | (simp only [go_sem] <;> omega) | fail) only [go_sem] <;> try with_reducible rfl) | apply Wp.block | apply Wp.exitS | apply Wp.retS | apply Wp.exit | apply Wp.ret | apply Wp.skip)
  apply Wp.loopF r.layers.toNat (fun i => ⟨[(1, .list 1 (ws.map fun n => iv n)), (2, .ptr 128 0 0), (7, iv (r.layers - 1 - i))], [(128, .box [iv r.core, iv r.thick, iv r.layers, iv r.pulley, iv r.plo, iv r.phi])], [], 10000000⟩) (fun i => ∀ j, j < i → (!someOn (holdsOf r ws) (r.layers - 1 - j)) = false)
  · simp -implicitDefEqProofs (maxSteps := 2000000) (disch := first | exact tt_rfl rfl | omega | (simp only [go_sem] <;> omega) | fail) only [go_sem, norm_eq, Ok.some]
    simp
  · intro j h; omega
  intro i hi hno
  by_cases hlt : i < r.layers.toNat
  · obtain ⟨k, hk⟩ : ∃ k : Nat, r.layers - 1 - (i : Int) = k := ⟨(r.layers - 1 - i).toNat, by omega⟩
    have hno' := hno
    have hso : someOn (holdsOf r ws) (r.layers - 1 - i) = someOn (holdsOf r ws) k := by rw [hk]
    rw [hk]
    repeat (first | apply Wp.seqA | apply Wp.skipS | apply Wp.blockS | ((first | apply Wp.regS | apply Wp.condV | apply Wp.reg | apply Wp.condW | apply fin_ret); simp -implicitDefEqProofs (maxSteps := 2000000) (disch := first | exact tt_rfl rfl | omega | (simp only [go_sem] <;> omega) | fail) only [go_sem, show (k : Int) ≥ 0 by omega] <;> try with_reducible rfl) | apply Wp.block | apply Wp.exitS | apply Wp.retS | apply Wp.exit | apply Wp.ret | apply Wp.skip)
    apply Wp.loopF ws.length (fun j => ⟨[(1, .list 1 (ws.map fun n => iv n)), (2, .ptr 128 0 0), (7, iv k), (8, .bool (someOn (holdsOf r (ws.take j)) k)), (9, iv j)], [(128, .box [iv r.core, iv r.thick, iv r.layers, iv r.pulley, iv r.plo, iv r.phi])], [], 10000000⟩) (fun _ => True)
    · simp -implicitDefEqProofs (maxSteps := 2000000) (disch := first | exact tt_rfl rfl | omega | (simp only [go_sem] <;> omega) | fail) only [go_sem, norm_eq, Ok.some]
      simp [someOn, holdsOf]
    · trivial
    intro j hj _
    by_cases hjl : j < ws.length
    · have e2 : someOn (holdsOf r (ws.take (j + 1))) k = (someOn (holdsOf r (ws.take j)) k || decide ((holdW r ws[j]).on k)) := by
        rw [List.take_succ_eq_append_getElem hjl]
        unfold holdsOf someOn
        rw [List.map_append, List.any_append]
        simp
      have h1 := hp ws[j] (List.getElem_mem hjl) k (by omega)
      have h2 := ho ws[j] k (by omega)
      rw [show decide (pulls r ws[j] k) = decide ((holdW r ws[j]).on k) from decide_eq_decide.2 h2.symm] at h1
      generalize decide ((holdW r ws[j]).on k) = q at *
      generalize hA : someOn (holdsOf r (ws.take j)) k = A at *
      cases A
      · repeat (first | apply Wp.seqA | apply Wp.skipS | apply Wp.blockS | ((first | apply Wp.regS | apply Wp.condV | apply Wp.reg | apply Wp.condW | apply fin_ret); simp -implicitDefEqProofs (maxSteps := 2000000) (disch := first | exact tt_rfl rfl | omega | (simp only [go_sem] <;> omega) | fail) only [go_sem, hjl, Int.ofNat_lt, List.getElem?_map, List.getElem?_eq_getElem hjl, Option.map_some, h1] <;> try with_reducible rfl) | apply Wp.block | apply Wp.exitS | apply Wp.retS | apply Wp.exit | apply Wp.ret | apply Wp.skip)
        apply round_next
        · simp -implicitDefEqProofs (maxSteps := 2000000) (disch := first | exact tt_rfl rfl | omega | (simp only [go_sem] <;> omega) | fail) only [go_sem, norm_eq, Ok.some]; with_reducible rfl
        exact ⟨hjl, by rw [e2]; simp, trivial⟩
      · repeat (first | apply Wp.seqA | apply Wp.skipS | apply Wp.blockS | ((first | apply Wp.regS | apply Wp.condV | apply Wp.reg | apply Wp.condW | apply fin_ret); simp -implicitDefEqProofs (maxSteps := 2000000) (disch := first | exact tt_rfl rfl | omega | (simp only [go_sem] <;> omega) | fail) only [go_sem, hjl, Int.ofNat_lt] <;> try with_reducible rfl) | apply Wp.block | apply Wp.exitS | apply Wp.retS | apply Wp.exit | apply Wp.ret | apply Wp.skip)
        apply round_next
        · simp -implicitDefEqProofs (maxSteps := 2000000) (disch := first | exact tt_rfl rfl | omega | (simp only [go_sem] <;> omega) | fail) only [go_sem, norm_eq, Ok.some]; with_reducible rfl
        exact ⟨hjl, by rw [e2]; simp, trivial⟩
    · obtain rfl : j = ws.length := by omega
      rw [List.take_length]
      cases hs : someOn (holdsOf r ws) k with
      | true =>
        repeat (first | apply Wp.seqA | apply Wp.skipS | apply Wp.blockS | ((first | apply Wp.regS | apply Wp.condV | apply Wp.reg | apply Wp.condW | apply fin_ret); simp -implicitDefEqProofs (maxSteps := 2000000) (disch := first | exact tt_rfl rfl | omega | (simp only [go_sem] <;> omega) | fail) only [go_sem, Int.lt_irrefl] <;> try with_reducible rfl) | apply Wp.block | apply Wp.exitS | apply Wp.retS | apply Wp.exit | apply Wp.ret | apply Wp.skip)
        apply round_next
        · simp -implicitDefEqProofs (maxSteps := 2000000) (disch := first | exact tt_rfl rfl | omega | (simp only [go_sem] <;> omega) | fail) only [go_sem, norm_eq, Ok.some]; with_reducible rfl
        refine ⟨hlt, ?_, fun j hj => ?_⟩
        · rw [show r.layers - 1 - ((i + 1 : Nat) : Int) = (k : Int) - 1 by omega]
        · by_cases e : j = i
          · subst e; rw [hso, hs]; rfl
          · exact hno j (by omega)
      | false =>
        have ec : covered (holdsOf r ws) r.layers = i := firstP_eq (by omega) hno fun _ => by rw [hso, hs]; rfl
        rw [ec, if_pos hlt, if_pos hlt, decide_eq_false (fun h => h hlt), hk]
        repeat (first | apply Wp.seqA | apply Wp.skipS | apply Wp.blockS | ((first | apply Wp.regS | apply Wp.condV | apply Wp.reg | apply Wp.condW | apply fin_ret); simp -implicitDefEqProofs (maxSteps := 2000000) (disch := first | exact tt_rfl rfl | omega | (simp only [go_sem] <;> omega) | fail) only [go_sem, Int.lt_irrefl] <;> try with_reducible rfl) | apply Wp.block | apply Wp.exitS | apply Wp.retS | apply Wp.exit | apply Wp.ret | apply Wp.skip)
  · obtain rfl : i = r.layers.toNat := by omega
    have ec : covered (holdsOf r ws) r.layers = r.layers.toNat := firstP_eq (by omega) hno fun h => by omega
    rw [ec, if_neg (by omega), if_neg (by omega), decide_eq_true (by omega)]
    have hc := cover_all (hs := holdsOf r ws) (L := r.layers) (by omega)
    repeat (first | apply Wp.seqA | apply Wp.skipS | apply Wp.blockS | ((first | apply Wp.regS | apply Wp.condV | apply Wp.reg | apply Wp.condW | apply fin_ret); simp -implicitDefEqProofs (maxSteps := 2000000) (disch := first | exact tt_rfl rfl | omega | (simp only [go_sem] <;> omega) | fail) only [go_sem, show ¬ r.layers - 1 - ((r.layers.toNat : Nat) : Int) ≥ 0 by omega] <;> try with_reducible rfl) | apply Wp.block | apply Wp.exitS | apply Wp.retS | apply Wp.exit | apply Wp.ret | apply Wp.skip)
    apply Wp.loopM (fun n fr => ∃ ts : List TurnA, fr = ⟨[(1, .list 1 (ws.map fun n => iv n)), (2, .ptr 128 0 0), (10, .slice 640 0 ts.length), (11, iv ((n : Int) - 1))], [(128, .box [iv r.core, iv r.thick, iv r.layers, iv r.pulley, iv r.plo, iv r.phi]), (640, .arr 2 (ts.map TurnA.av))], [], 10000000⟩ ∧
      n ≤ r.layers.toNat ∧ ts ++ turnsW (holdsOf r ws) n = turnsW (holdsOf r ws) r.layers.toNat)
    · simp -implicitDefEqProofs (maxSteps := 2000000) (disch := first | exact tt_rfl rfl | omega | (simp only [go_sem] <;> omega) | fail) only [go_sem, norm_eq, Ok.some]
      refine ⟨r.layers.toNat, [], ?_, Nat.le_refl _, rfl⟩
      rw [show ((r.layers.toNat : Nat) : Int) = r.layers by omega]
      rfl
    rintro n fr ⟨ts, rfl, hn, hts⟩
    match n, hn, hts with
    | 0, _, hts =>
      rw [turnsW_zero, List.append_nil] at hts
      rw [← hts]
      have htl : (ts.map TurnA.av).length = ts.length := by simp
      repeat (first | apply Wp.seqA | apply Wp.skipS | apply Wp.blockS | ((first | apply Wp.regS | apply Wp.condV | apply Wp.reg | apply Wp.condW | apply fin_ret); simp -implicitDefEqProofs (maxSteps := 2000000) (disch := first | exact tt_rfl rfl | omega | (simp only [go_sem] <;> omega) | fail) only [go_sem, show ¬ ((0 : Nat) : Int) - 1 ≥ 0 by omega, htl] <;> try with_reducible rfl) | apply Wp.block | apply Wp.exitS | apply Wp.retS | apply Wp.exit | apply Wp.ret | apply Wp.skip)
    | k + 1, hn, hts =>
      obtain ⟨e1, b1, b2⟩ := next_le hc hpos (show k < r.layers.toNat by omega)
      have hso := hc k (by omega)
      have hk : ((k + 1 : Nat) : Int) - 1 = k := by omega
      rw [hk]
      repeat (first | apply Wp.seqA | apply Wp.skipS | apply Wp.blockS | ((first | apply Wp.regS | apply Wp.condV | apply Wp.reg | apply Wp.condW | apply fin_ret); simp -implicitDefEqProofs (maxSteps := 2000000) (disch := first | exact tt_rfl rfl | omega | (simp only [go_sem] <;> omega) | fail) only [go_sem, show (k : Int) ≥ 0 by omega] <;> try with_reducible rfl) | apply Wp.block | apply Wp.exitS | apply Wp.retS | apply Wp.exit | apply Wp.ret | apply Wp.skip)
      apply Wp.loopF ws.length (fun i => ⟨[(1, .list 1 (ws.map fun n => iv n)), (2, .ptr 128 0 0), (10, .slice 640 0 ts.length), (11, iv k), (12, iv (refBest r k (ws.take i)).1), (13, iv (refBest r k (ws.take i)).2), (14, iv i)], [(128, .box [iv r.core, iv r.thick, iv r.layers, iv r.pulley, iv r.plo, iv r.phi]), (640, .arr 2 (ts.map TurnA.av))], [], 10000000⟩) (fun _ => True)
      · simp -implicitDefEqProofs (maxSteps := 2000000) (disch := first | exact tt_rfl rfl | omega | (simp only [go_sem] <;> omega) | fail) only [go_sem, norm_eq, Ok.some]
        rfl
      · trivial
      intro i hi _
      by_cases hil : i < ws.length
      · have eb := refBest_snoc r k (ws.take i) ws[i]
        rw [← List.take_succ_eq_append_getElem hil] at eb
        generalize hb : refBest r k (ws.take i) = best at eb
        have hpw := hp ws[i] (List.getElem_mem hil)
        have how := ho ws[i]
        have hiw := hin ws[i]
        generalize hh : holdW r ws[i] = g at *
        repeat (first | apply Wp.seqA | apply Wp.skipS | apply Wp.blockS | ((first | apply Wp.regS | apply Wp.condV | apply Wp.reg | apply Wp.condW | apply fin_ret); simp -implicitDefEqProofs (maxSteps := 2000000) (disch := first | exact tt_rfl rfl | omega | (simp only [go_sem] <;> omega) | fail) only [go_sem, hil, Int.ofNat_lt] <;> try with_reducible rfl) | apply Wp.block | apply Wp.exitS | apply Wp.retS | apply Wp.exit | apply Wp.ret | apply Wp.skip)
        apply Wp.loopM (fun n fr => ∃ a : Nat, fr = ⟨[(1, .list 1 (ws.map fun n => iv n)), (2, .ptr 128 0 0), (10, .slice 640 0 ts.length), (11, iv k), (12, iv best.1), (13, iv best.2), (14, iv i), (15, iv a)], [(128, .box [iv r.core, iv r.thick, iv r.layers, iv r.pulley, iv r.plo, iv r.phi]), (640, .arr 2 (ts.map TurnA.av))], [], 10000000⟩ ∧
          n = a ∧ (g.on k → g.lo ≤ a ∧ a ≤ k + 1) ∧ (¬ g.on k → a = k + 1))
        · simp -implicitDefEqProofs (maxSteps := 2000000) (disch := first | exact tt_rfl rfl | omega | (simp only [go_sem] <;> omega) | fail) only [go_sem, norm_eq, Ok.some]
          refine ⟨_, k + 1, by simp, rfl, fun h => ⟨by have := h.1; omega, by omega⟩, fun _ => rfl⟩
        rintro m fr ⟨a, rfl, rfl, ha1, ha2⟩
        by_cases hgo : 0 < m ∧ g.on ((m : Int) - 1)
        · have hon : g.on k := by
            rcases Classical.em (g.on k) with h | h
            · exact h
            · have := ha2 h
              have := hgo.2
              rw [show (m : Int) - 1 = k by omega] at this
              exact absurd this h
          obtain ⟨a1, a2⟩ := ha1 hon
          have h1 := hpw (m - 1) (by omega)
          rw [decide_eq_true ((how (m - 1) (by omega)).1 (by rw [show ((m - 1 : Nat) : Int) = (m : Int) - 1 by omega]; exact hgo.2)), show ((m - 1 : Nat) : Int) = (m : Int) - 1 by omega] at h1
          repeat (first | apply Wp.seqA | apply Wp.skipS | apply Wp.blockS | ((first | apply Wp.regS | apply Wp.condV | apply Wp.reg | apply Wp.condW | apply fin_ret); simp -implicitDefEqProofs (maxSteps := 2000000) (disch := first | exact tt_rfl rfl | omega | (simp only [go_sem] <;> omega) | fail) only [go_sem, show (m : Int) > 0 by omega, hil, Int.ofNat_lt, List.getElem?_map, List.getElem?_eq_getElem hil, Option.map_some, h1] <;> try with_reducible rfl) | apply Wp.block | apply Wp.exitS | apply Wp.retS | apply Wp.exit | apply Wp.ret | apply Wp.skip)
          apply round_next (Q := fun _ _ => False)
          · simp -implicitDefEqProofs (maxSteps := 2000000) (disch := first | exact tt_rfl rfl | omega | (simp only [go_sem] <;> omega) | fail) only [go_sem, norm_eq, Ok.some]; with_reducible rfl
          refine ⟨m - 1, by omega, m - 1, ?_, rfl, fun _ => ⟨by have := hgo.2.1; omega, by omega⟩, fun h => absurd hon h⟩
          rw [show ((m - 1 : Nat) : Int) = (m : Int) - 1 by omega]
        · have ea : (m : Int) = if g.on k then g.lo else (k : Int) + 1 := by
            by_cases hon : g.on k
            · rw [if_pos hon]
              obtain ⟨a1, a2⟩ := ha1 hon
              rcases Nat.lt_or_ge 0 m with h0 | h0
              · have : ¬ g.on ((m : Int) - 1) := fun h => hgo ⟨h0, h⟩
                unfold HoldA.on at this hon
                omega
              · omega
            · rw [if_neg hon, ha2 hon]; omega
          rw [← ea] at eb
          by_cases h0 : 0 < m
          · have h1 := hpw (m - 1) (by omega)
            rw [decide_eq_false (fun h => hgo ⟨h0, by rw [show (m : Int) - 1 = ((m - 1 : Nat) : Int) by omega]; exact (how (m - 1) (by omega)).2 h⟩), show ((m - 1 : Nat) : Int) = (m : Int) - 1 by omega] at h1
            by_cases hlt : (m : Int) < best.2
            · rw [if_pos hlt] at eb
              repeat (first | apply Wp.seqA | apply Wp.skipS | apply Wp.blockS | ((first | apply Wp.regS | apply Wp.condV | apply Wp.reg | apply Wp.condW | apply fin_ret); simp -implicitDefEqProofs (maxSteps := 2000000) (disch := first | exact tt_rfl rfl | omega | (simp only [go_sem] <;> omega) | fail) only [go_sem, show (m : Int) > 0 by omega, hil, Int.ofNat_lt, List.getElem?_map, List.getElem?_eq_getElem hil, Option.map_some, h1, hlt] <;> try with_reducible rfl) | apply Wp.block | apply Wp.exitS | apply Wp.retS | apply Wp.exit | apply Wp.ret | apply Wp.skip)
              apply round_next
              · simp -implicitDefEqProofs (maxSteps := 2000000) (disch := first | exact tt_rfl rfl | omega | (simp only [go_sem] <;> omega) | fail) only [go_sem, norm_eq, Ok.some]; with_reducible rfl
              exact ⟨hil, by rw [eb]; simp, trivial⟩
            · rw [if_neg hlt] at eb
              repeat (first | apply Wp.seqA | apply Wp.skipS | apply Wp.blockS | ((first | apply Wp.regS | apply Wp.condV | apply Wp.reg | apply Wp.condW | apply fin_ret); simp -implicitDefEqProofs (maxSteps := 2000000) (disch := first | exact tt_rfl rfl | omega | (simp only [go_sem] <;> omega) | fail) only [go_sem, show (m : Int) > 0 by omega, hil, Int.ofNat_lt, List.getElem?_map, List.getElem?_eq_getElem hil, Option.map_some, h1, hlt] <;> try with_reducible rfl) | apply Wp.block | apply Wp.exitS | apply Wp.retS | apply Wp.exit | apply Wp.ret | apply Wp.skip)
              apply round_next
              · simp -implicitDefEqProofs (maxSteps := 2000000) (disch := first | exact tt_rfl rfl | omega | (simp only [go_sem] <;> omega) | fail) only [go_sem, norm_eq, Ok.some]; with_reducible rfl
              exact ⟨hil, by rw [eb]; simp, trivial⟩
          · by_cases hlt : (m : Int) < best.2
            · rw [if_pos hlt] at eb
              repeat (first | apply Wp.seqA | apply Wp.skipS | apply Wp.blockS | ((first | apply Wp.regS | apply Wp.condV | apply Wp.reg | apply Wp.condW | apply fin_ret); simp -implicitDefEqProofs (maxSteps := 2000000) (disch := first | exact tt_rfl rfl | omega | (simp only [go_sem] <;> omega) | fail) only [go_sem, show ¬ (m : Int) > 0 by omega, hil, Int.ofNat_lt, List.getElem?_map, List.getElem?_eq_getElem hil, Option.map_some, hlt] <;> try with_reducible rfl) | apply Wp.block | apply Wp.exitS | apply Wp.retS | apply Wp.exit | apply Wp.ret | apply Wp.skip)
              apply round_next
              · simp -implicitDefEqProofs (maxSteps := 2000000) (disch := first | exact tt_rfl rfl | omega | (simp only [go_sem] <;> omega) | fail) only [go_sem, norm_eq, Ok.some]; with_reducible rfl
              exact ⟨hil, by rw [eb]; simp, trivial⟩
            · rw [if_neg hlt] at eb
              repeat (first | apply Wp.seqA | apply Wp.skipS | apply Wp.blockS | ((first | apply Wp.regS | apply Wp.condV | apply Wp.reg | apply Wp.condW | apply fin_ret); simp -implicitDefEqProofs (maxSteps := 2000000) (disch := first | exact tt_rfl rfl | omega | (simp only [go_sem] <;> omega) | fail) only [go_sem, show ¬ (m : Int) > 0 by omega, hil, Int.ofNat_lt, List.getElem?_map, List.getElem?_eq_getElem hil, Option.map_some, hlt] <;> try with_reducible rfl) | apply Wp.block | apply Wp.exitS | apply Wp.retS | apply Wp.exit | apply Wp.ret | apply Wp.skip)
              apply round_next
              · simp -implicitDefEqProofs (maxSteps := 2000000) (disch := first | exact tt_rfl rfl | omega | (simp only [go_sem] <;> omega) | fail) only [go_sem, norm_eq, Ok.some]; with_reducible rfl
              exact ⟨hil, by rw [eb]; simp, trivial⟩
      · obtain rfl : i = ws.length := by omega
        rw [List.take_length, refBest_eq, if_pos hso]
        have et : ts ++ [⟨k, (pick (holdsOf r ws) k).w⟩] ++ turnsW (holdsOf r ws) (pick (holdsOf r ws) k).lo.toNat = turnsW (holdsOf r ws) r.layers.toNat := by
          rw [← hts, turnsW_succ, e1, List.append_assoc]; rfl
        have htl : (ts.map TurnA.av).length = ts.length := by simp
        have htn : ts.length < 1000000 := by
          have := turnsW_len (holdsOf r ws) r.layers.toNat
          rw [← hts, List.length_append] at this
          omega
        generalize pick (holdsOf r ws) k = pk at *
        repeat (first | apply Wp.seqA | apply Wp.skipS | apply Wp.blockS | ((first | apply Wp.regS | apply Wp.condV | apply Wp.reg | apply Wp.condW | apply fin_ret); simp -implicitDefEqProofs (maxSteps := 2000000) (disch := first | exact tt_rfl rfl | omega | (simp only [go_sem] <;> omega) | fail) only [go_sem, Int.lt_irrefl, htl] <;> try with_reducible rfl) | apply Wp.block | apply Wp.exitS | apply Wp.retS | apply Wp.exit | apply Wp.ret | apply Wp.skip)
        apply round_next (Q := fun _ _ => False)
        · simp -implicitDefEqProofs (maxSteps := 2000000) (disch := first | exact tt_rfl rfl | omega | (simp only [go_sem] <;> omega) | fail) only [go_sem, norm_eq, Ok.some]; with_reducible rfl
        refine ⟨pk.lo.toNat, by omega, ts ++ [⟨k, pk.w⟩], ?_, by omega, et⟩
        rw [show ((pk.lo.toNat : Nat) : Int) = pk.lo by omega, List.map_append, List.length_append]
        simp [TurnA.av]
end Go.Abs
