/-
  BeamHeld: what it looks at is so, for every roll in bytes, all weights and all tries.
-/
import Derived.Test.YtbmihapnaclidaaH1
import Derived.Test.YtbmihapnaclidaaFlat
import Derived.Test.YtbmihapnaclidaaKnown
set_option linter.all false
namespace Go.Abs
set_option maxRecDepth 10000
set_option maxHeartbeats 16000000

@[go_sem] theorem byte_plain (l : List (Fin 256)) : (l.map fun n => AV.int .u8 (n.1 : Int)).all AV.plain = true := by
  simp [AV.plain, AV.plain1]
def wOf (b : Fin 256) : Int := 1 + (b.1 : Int)
def wsOf (by' : List (Fin 256)) : List Int := (by'.take 8).map wOf
theorem wOf_ok (b : Fin 256) : WeiOk (wOf b) := by unfold wOf WeiOk; omega
theorem wsOf_ok (by' : List (Fin 256)) : ∀ w ∈ wsOf by', WeiOk w := by
  intro w hw
  obtain ⟨b, _, rfl⟩ := List.mem_map.1 hw
  exact wOf_ok b
theorem ownInts_ok (l : List Int) (hl : l.length < 1000000) : lim F 23 [.list 1 (l.map fun n => iv n)] = some (.own 1 (l.map fun n => iv n), []) := by
  refine lim_by (fn := a23) (k := 1) (res := [.tmp 2]) rfl rfl rfl (by simp -implicitDefEqProofs (maxSteps := 2000000) (disch := first | exact tt_rfl rfl | omega | (simp only [go_sem] <;> omega) | fail) only [go_sem]) ?_
  simp -implicitDefEqProofs (maxSteps := 2000000) (disch := first | exact tt_rfl rfl | omega | (simp only [go_sem] <;> omega) | fail) only [go_sem]
  repeat (first | apply Wp.seqA | apply Wp.skipS | apply Wp.blockS | ((first | apply Wp.regS | apply Wp.condV | apply Wp.reg | apply Wp.condW | apply fin_ret); simp -implicitDefEqProofs (maxSteps := 2000000) (disch := first | exact tt_rfl rfl | omega | (simp only [go_sem] <;> omega) | fail) only [go_sem] <;> try with_reducible rfl) | apply Wp.block | apply Wp.exitS | apply Wp.retS | apply Wp.exit | apply Wp.ret | apply Wp.skip)

theorem held_main (r : RollA) (hr : r.Ok) (hlay : r.layers ≤ 256) (v0 v1 v2 v3 v4 v5 : Int) (by' tr : List (Fin 256))
    (q0 : 0 ≤ v0 ∧ v0 ≤ 255) (q1 : 0 ≤ v1 ∧ v1 ≤ 255) (q2 : 0 ≤ v2 ∧ v2 ≤ 255) (q3 : 0 ≤ v3 ∧ v3 ≤ 255) (q4 : 0 ≤ v4 ∧ v4 ≤ 255) (q5 : 0 ≤ v5 ∧ v5 ≤ 255)
    (e0 : 1000 + 40 * v0 = r.core) (e1 : v1 = r.thick) (e2 : 1 + v2 = r.layers) (e3 : 1000 + 100 * v3 = r.pulley) (e4 : 10 + v4 = r.plo) (e5 : r.plo + v5 = r.phi) :
    lim F 12 [.agg [.int .u8 v0, .int .u8 v1, .int .u8 v2, .int .u8 v3, .int .u8 v4, .int .u8 v5], .list 1 (by'.map fun n => .int .u8 (n.1 : Int)), .list 1 (tr.map fun n => .int .u8 (n.1 : Int))] = some (.bool true, []) := by
  have kn := known_ok
  have sp : lim F 33 [iv r.plo, iv r.phi] = some (.agg [iv r.plo, iv r.phi], []) := span_ok _ _
  have hl1 := hr.2.2.1
  subst e1
  refine lim_by (fn := a12) (k := 3) (res := [.tmp 6]) rfl rfl rfl (by simp -implicitDefEqProofs (maxSteps := 2000000) (disch := first | exact tt_rfl rfl | omega | (simp only [go_sem] <;> omega) | fail) only [go_sem]) ?_
  simp -implicitDefEqProofs (maxSteps := 2000000) (disch := first | exact tt_rfl rfl | omega | (simp only [go_sem] <;> omega) | fail) only [go_sem]
  repeat (first | apply Wp.seqA | apply Wp.skipS | apply Wp.blockS | ((first | apply Wp.regS | apply Wp.condV | apply Wp.reg | apply Wp.condW | apply fin_ret); simp -implicitDefEqProofs (maxSteps := 2000000) (disch := first | exact tt_rfl rfl | omega | (simp only [go_sem] <;> omega) | fail) only [go_sem, e0, e2, e3, e4, e5, sp] <;> try with_reducible rfl) | apply Wp.block | apply Wp.exitS | apply Wp.retS | apply Wp.exit | apply Wp.ret | apply Wp.skip)
  apply Wp.loopF (min by'.length 8) (fun i => ⟨[(1, .list 1 (by'.map fun n => .int .u8 (n.1 : Int))), (2, .list 1 (tr.map fun n => .int .u8 (n.1 : Int))), (3, .ptr 192 0 0), (7, .ptr 448 0 0), (8, .slice 512 0 i), (9, iv i)],
    [(192, .box [.int .u8 v0, .int .u8 r.thick, .int .u8 v2, .int .u8 v3, .int .u8 v4, .int .u8 v5]), (448, .box [iv r.core, iv r.thick, iv r.layers, iv r.pulley, iv r.plo, iv r.phi]), (512, .arr 1 (((by'.take i).map wOf).map fun n => iv n))], [], 10000000⟩) (fun _ => True)
  · simp -implicitDefEqProofs (maxSteps := 2000000) (disch := first | exact tt_rfl rfl | omega | (simp only [go_sem] <;> omega) | fail) only [go_sem, norm_eq, Ok.some]
    rfl
  · trivial
  intro i hi _
  have hxl : (((by'.take i).map wOf).map fun n => iv n).length = i := by simp; omega
  by_cases hN : i < min by'.length 8
  · have hlt : i < by'.length := by omega
    have hb := by'[i].2
    have ex : ((by'.take (i + 1)).map wOf).map (fun n => iv n) = ((by'.take i).map wOf).map (fun n => iv n) ++ [iv (1 + (by'[i].1 : Int))] := by
      rw [List.take_succ_eq_append_getElem hlt, List.map_append, List.map_append]; rfl
    generalize ((by'.take i).map wOf).map (fun n => iv n) = xs at *
    repeat (first | apply Wp.seqA | apply Wp.skipS | apply Wp.blockS | ((first | apply Wp.regS | apply Wp.condV | apply Wp.reg | apply Wp.condW | apply fin_ret); simp -implicitDefEqProofs (maxSteps := 2000000) (disch := first | exact tt_rfl rfl | omega | (simp only [go_sem] <;> omega) | fail) only [go_sem, show (i : Int) < by'.length by omega, show (i : Int) < 8 by omega, List.getElem?_map, List.getElem?_eq_getElem hlt, Option.map_some, hxl] <;> try with_reducible rfl) | apply Wp.block | apply Wp.exitS | apply Wp.retS | apply Wp.exit | apply Wp.ret | apply Wp.skip)
    apply round_next
    · simp -implicitDefEqProofs (maxSteps := 2000000) (disch := first | exact tt_rfl rfl | omega | (simp only [go_sem] <;> omega) | fail) only [go_sem, norm_eq, Ok.some]; with_reducible rfl
    exact ⟨hN, by rw [ex]; simp, trivial⟩
  · have hx : ¬ (i : Int) < by'.length ∨ (i : Int) < by'.length ∧ ¬ (i : Int) < 8 := by omega
    have ew : (by'.take i).map wOf = wsOf by' := by
      unfold wsOf
      rcases Nat.lt_or_ge i by'.length with h | h
      · rw [show i = 8 by omega]
      · rw [List.take_of_length_le h, List.take_of_length_le (by omega)]
    have hwl : (wsOf by').length = i := by rw [← ew]; simp; omega
    have hok := wsOf_ok by'
    rw [ew] at hxl ⊢
    have hw8 : i ≤ 8 := by omega
    generalize wsOf by' = ws at *
    subst hwl
    repeat (first | apply Wp.seqA | apply Wp.skipS | apply Wp.blockS | ((first | apply Wp.regS | apply Wp.condV | apply Wp.reg | apply Wp.condW | apply fin_ret); simp -implicitDefEqProofs (maxSteps := 2000000) (disch := first | exact tt_rfl rfl | omega | (simp only [go_sem] <;> omega) | fail) only [go_sem] <;> try with_reducible rfl) | apply Wp.block | apply Wp.exitS | apply Wp.retS | apply Wp.exit | apply Wp.ret | apply Wp.skip)
    · refine (?_ : _ = some (⟨[(1, .list 1 (by'.map fun n => .int .u8 (n.1 : Int))), (2, .list 1 (tr.map fun n => .int .u8 (n.1 : Int))), (3, .ptr 192 0 0), (7, .ptr 448 0 0), (8, .slice 512 0 ws.length), (9, iv ws.length), (68, .bool false)], [(192, .box [.int .u8 v0, .int .u8 r.thick, .int .u8 v2, .int .u8 v3, .int .u8 v4, .int .u8 v5]), (448, .box [iv r.core, iv r.thick, iv r.layers, iv r.pulley, iv r.plo, iv r.phi]), (512, .arr 1 (ws.map fun n => iv n))], [], 10000256⟩ : Fr))
      rcases hx with h | ⟨h, h'⟩
      · simp -implicitDefEqProofs (maxSteps := 2000000) (disch := first | exact tt_rfl rfl | omega | (simp only [go_sem] <;> omega) | fail) only [go_sem, h]
      · simp -implicitDefEqProofs (maxSteps := 2000000) (disch := first | exact tt_rfl rfl | omega | (simp only [go_sem] <;> omega) | fail) only [go_sem, h, h']
    clear hx hi hN ew e0 e2 e3 e4 e5 sp
    have hp := fun (w : Int) (hm : w ∈ ws) (k : Int) (k0 : 0 ≤ k) (k1 : k < r.layers) => held1_ok r w k ⟨hr, (hok w hm).1, (hok w hm).2, k0, by omega⟩
    have hbI := fun (w : Int) (k : Nat) (hk : (k : Int) < r.layers) => bear_iff hr (w := w) k hk
    have hB := fun (w : Int) (hm : w ∈ ws) => Bears_ok r w
    unfold RollA.av RollA.cells at *
    repeat (first | apply Wp.seqA | apply Wp.skipS | apply Wp.blockS | ((first | apply Wp.regS | apply Wp.condV | apply Wp.reg | apply Wp.condW | apply fin_ret); simp -implicitDefEqProofs (maxSteps := 2000000) (disch := first | exact tt_rfl rfl | omega | (simp only [go_sem] <;> omega) | fail) only [go_sem] <;> try with_reducible rfl) | apply Wp.block | apply Wp.exitS | apply Wp.retS | apply Wp.exit | apply Wp.ret | apply Wp.skip)
    apply Wp.loopF ws.length (fun i => ⟨[(2, .list 1 (tr.map fun n => .int .u8 (n.1 : Int))), (3, .ptr 192 0 0), (7, .ptr 448 0 0), (8, .slice 512 0 ws.length), (10, .func 59 [.ptr 448 0 0]), (11, iv i)], [(192, .box [.int .u8 v0, .int .u8 r.thick, .int .u8 v2, .int .u8 v3, .int .u8 v4, .int .u8 v5]), (448, .box [iv r.core, iv r.thick, iv r.layers, iv r.pulley, iv r.plo, iv r.phi]), (512, .arr 1 (ws.map fun n => iv n))], [], 10000000⟩) (fun _ => True)
    · simp -implicitDefEqProofs (maxSteps := 2000000) (disch := first | exact tt_rfl rfl | omega | (simp only [go_sem] <;> omega) | fail) only [go_sem, norm_eq, Ok.some]
      rfl
    · trivial
    intro i hi _
    by_cases hil : i < ws.length
    · have hw := hok ws[i] (List.getElem_mem hil)
      have hBi := hB ws[i] (List.getElem_mem hil)
      have hpi := hp ws[i] (List.getElem_mem hil)
      have hbi := hbI ws[i]
      have eB : bearsE r ws[i] = if bearLo r ws[i] < bearHi r ws[i] then 0 else 7 := by unfold bearsE; rw [if_pos hr, if_pos hw]
      have hbl := bear_le r ws[i]
      have eg : ws[i]? = some ws[i] := List.getElem?_eq_getElem hil
      generalize bearLo r ws[i] = x at *
      generalize bearHi r ws[i] = y at *
      generalize ws[i] = w at *
      by_cases hxy : x < y
      · rw [if_pos hxy] at eB
        rw [eB, if_pos rfl, if_pos rfl] at hBi
        repeat (first | apply Wp.seqA | apply Wp.skipS | apply Wp.blockS | ((first | apply Wp.regS | apply Wp.condV | apply Wp.reg | apply Wp.condW | apply fin_ret); simp -implicitDefEqProofs (maxSteps := 2000000) (disch := first | exact tt_rfl rfl | omega | (simp only [go_sem] <;> omega) | fail) only [go_sem, hil, Int.ofNat_lt, List.getElem?_map, eg, Option.map_some, hBi] <;> try with_reducible rfl) | apply Wp.block | apply Wp.exitS | apply Wp.retS | apply Wp.exit | apply Wp.ret | apply Wp.skip)
        apply Wp.loopF r.layers.toNat (fun k => ⟨[(2, .list 1 (tr.map fun n => .int .u8 (n.1 : Int))), (3, .ptr 192 0 0), (7, .ptr 448 0 0), (8, .slice 512 0 ws.length), (10, .func 59 [.ptr 448 0 0]), (11, iv i), (12, .ptr 768 0 0), (13, iv 0), (14, iv k)], [(192, .box [.int .u8 v0, .int .u8 r.thick, .int .u8 v2, .int .u8 v3, .int .u8 v4, .int .u8 v5]), (448, .box [iv r.core, iv r.thick, iv r.layers, iv r.pulley, iv r.plo, iv r.phi]), (512, .arr 1 (ws.map fun n => iv n)), (768, .box [iv x, iv ((y : Int) - 1)])], [], 10000000⟩) (fun _ => True)
        · simp -implicitDefEqProofs (maxSteps := 2000000) (disch := first | exact tt_rfl rfl | omega | (simp only [go_sem] <;> omega) | fail) only [go_sem, norm_eq, Ok.some]
          rfl
        · trivial
        intro k hk _
        by_cases hkN : k < r.layers.toNat
        · have hc := hpi k (by omega) (by omega)
          have hk2 := hbi k (by omega)
          by_cases c1 : x ≤ k
          · by_cases c2 : k < y
            · rw [decide_eq_true (hk2.2 ⟨c1, c2⟩)] at hc
              repeat (first | apply Wp.seqA | apply Wp.skipS | apply Wp.blockS | ((first | apply Wp.regS | apply Wp.condV | apply Wp.reg | apply Wp.condW | apply fin_ret); simp -implicitDefEqProofs (maxSteps := 2000000) (disch := first | exact tt_rfl rfl | omega | (simp only [go_sem] <;> omega) | fail) only [go_sem, show (k : Int) < r.layers by omega, hil, Int.ofNat_lt, List.getElem?_map, eg, Option.map_some, hc, show (k : Int) ≥ x by omega, show (k : Int) ≤ (y : Int) - 1 by omega, bne_self_eq_false] <;> try with_reducible rfl) | apply Wp.block | apply Wp.exitS | apply Wp.retS | apply Wp.exit | apply Wp.ret | apply Wp.skip)
              apply round_next
              · simp -implicitDefEqProofs (maxSteps := 2000000) (disch := first | exact tt_rfl rfl | omega | (simp only [go_sem] <;> omega) | fail) only [go_sem, norm_eq, Ok.some]; with_reducible rfl
              exact ⟨hkN, by simp, trivial⟩
            · rw [decide_eq_false fun h => c2 (hk2.1 h).2] at hc
              repeat (first | apply Wp.seqA | apply Wp.skipS | apply Wp.blockS | ((first | apply Wp.regS | apply Wp.condV | apply Wp.reg | apply Wp.condW | apply fin_ret); simp -implicitDefEqProofs (maxSteps := 2000000) (disch := first | exact tt_rfl rfl | omega | (simp only [go_sem] <;> omega) | fail) only [go_sem, show (k : Int) < r.layers by omega, hil, Int.ofNat_lt, List.getElem?_map, eg, Option.map_some, hc, show (k : Int) ≥ x by omega, show ¬ (k : Int) ≤ (y : Int) - 1 by omega, bne_self_eq_false] <;> try with_reducible rfl) | apply Wp.block | apply Wp.exitS | apply Wp.retS | apply Wp.exit | apply Wp.ret | apply Wp.skip)
              apply round_next
              · simp -implicitDefEqProofs (maxSteps := 2000000) (disch := first | exact tt_rfl rfl | omega | (simp only [go_sem] <;> omega) | fail) only [go_sem, norm_eq, Ok.some]; with_reducible rfl
              exact ⟨hkN, by simp, trivial⟩
          · rw [decide_eq_false fun h => c1 (hk2.1 h).1] at hc
            repeat (first | apply Wp.seqA | apply Wp.skipS | apply Wp.blockS | ((first | apply Wp.regS | apply Wp.condV | apply Wp.reg | apply Wp.condW | apply fin_ret); simp -implicitDefEqProofs (maxSteps := 2000000) (disch := first | exact tt_rfl rfl | omega | (simp only [go_sem] <;> omega) | fail) only [go_sem, show (k : Int) < r.layers by omega, hil, Int.ofNat_lt, List.getElem?_map, eg, Option.map_some, hc, show ¬ (k : Int) ≥ x by omega, bne_self_eq_false] <;> try with_reducible rfl) | apply Wp.block | apply Wp.exitS | apply Wp.retS | apply Wp.exit | apply Wp.ret | apply Wp.skip)
            apply round_next
            · simp -implicitDefEqProofs (maxSteps := 2000000) (disch := first | exact tt_rfl rfl | omega | (simp only [go_sem] <;> omega) | fail) only [go_sem, norm_eq, Ok.some]; with_reducible rfl
            exact ⟨hkN, by simp, trivial⟩
        · repeat (first | apply Wp.seqA | apply Wp.skipS | apply Wp.blockS | ((first | apply Wp.regS | apply Wp.condV | apply Wp.reg | apply Wp.condW | apply fin_ret); simp -implicitDefEqProofs (maxSteps := 2000000) (disch := first | exact tt_rfl rfl | omega | (simp only [go_sem] <;> omega) | fail) only [go_sem, show ¬ (k : Int) < r.layers by omega] <;> try with_reducible rfl) | apply Wp.block | apply Wp.exitS | apply Wp.retS | apply Wp.exit | apply Wp.ret | apply Wp.skip)
          apply round_next
          · simp -implicitDefEqProofs (maxSteps := 2000000) (disch := first | exact tt_rfl rfl | omega | (simp only [go_sem] <;> omega) | fail) only [go_sem, norm_eq, Ok.some]; with_reducible rfl
          exact ⟨hil, by simp, trivial⟩
      · rw [if_neg hxy] at eB
        rw [eB, if_neg (by omega), if_neg (by omega)] at hBi
        repeat (first | apply Wp.seqA | apply Wp.skipS | apply Wp.blockS | ((first | apply Wp.regS | apply Wp.condV | apply Wp.reg | apply Wp.condW | apply fin_ret); simp -implicitDefEqProofs (maxSteps := 2000000) (disch := first | exact tt_rfl rfl | omega | (simp only [go_sem] <;> omega) | fail) only [go_sem, hil, Int.ofNat_lt, List.getElem?_map, eg, Option.map_some, hBi, bne_self_eq_false] <;> try with_reducible rfl) | apply Wp.block | apply Wp.exitS | apply Wp.retS | apply Wp.exit | apply Wp.ret | apply Wp.skip)
        apply Wp.loopF r.layers.toNat (fun k => ⟨[(2, .list 1 (tr.map fun n => .int .u8 (n.1 : Int))), (3, .ptr 192 0 0), (7, .ptr 448 0 0), (8, .slice 512 0 ws.length), (10, .func 59 [.ptr 448 0 0]), (11, iv i), (12, .ptr 768 0 0), (13, iv 7), (14, iv k)], [(192, .box [.int .u8 v0, .int .u8 r.thick, .int .u8 v2, .int .u8 v3, .int .u8 v4, .int .u8 v5]), (448, .box [iv r.core, iv r.thick, iv r.layers, iv r.pulley, iv r.plo, iv r.phi]), (512, .arr 1 (ws.map fun n => iv n)), (768, .box [iv 0, iv 0])], [], 10000000⟩) (fun _ => True)
        · simp -implicitDefEqProofs (maxSteps := 2000000) (disch := first | exact tt_rfl rfl | omega | (simp only [go_sem] <;> omega) | fail) only [go_sem, norm_eq, Ok.some]
          rfl
        · trivial
        intro k hk _
        by_cases hkN : k < r.layers.toNat
        · have hc := hpi k (by omega) (by omega)
          rw [decide_eq_false fun h => hxy (Nat.lt_of_le_of_lt ((hbi k (by omega)).1 h).1 ((hbi k (by omega)).1 h).2)] at hc
          repeat (first | apply Wp.seqA | apply Wp.skipS | apply Wp.blockS | ((first | apply Wp.regS | apply Wp.condV | apply Wp.reg | apply Wp.condW | apply fin_ret); simp -implicitDefEqProofs (maxSteps := 2000000) (disch := first | exact tt_rfl rfl | omega | (simp only [go_sem] <;> omega) | fail) only [go_sem, show (k : Int) < r.layers by omega, hil, Int.ofNat_lt, List.getElem?_map, eg, Option.map_some, hc, bne_self_eq_false] <;> try with_reducible rfl) | apply Wp.block | apply Wp.exitS | apply Wp.retS | apply Wp.exit | apply Wp.ret | apply Wp.skip)
          apply round_next
          · simp -implicitDefEqProofs (maxSteps := 2000000) (disch := first | exact tt_rfl rfl | omega | (simp only [go_sem] <;> omega) | fail) only [go_sem, norm_eq, Ok.some]; with_reducible rfl
          exact ⟨hkN, by simp, trivial⟩
        · repeat (first | apply Wp.seqA | apply Wp.skipS | apply Wp.blockS | ((first | apply Wp.regS | apply Wp.condV | apply Wp.reg | apply Wp.condW | apply fin_ret); simp -implicitDefEqProofs (maxSteps := 2000000) (disch := first | exact tt_rfl rfl | omega | (simp only [go_sem] <;> omega) | fail) only [go_sem, show ¬ (k : Int) < r.layers by omega] <;> try with_reducible rfl) | apply Wp.block | apply Wp.exitS | apply Wp.retS | apply Wp.exit | apply Wp.ret | apply Wp.skip)
          apply round_next
          · simp -implicitDefEqProofs (maxSteps := 2000000) (disch := first | exact tt_rfl rfl | omega | (simp only [go_sem] <;> omega) | fail) only [go_sem, norm_eq, Ok.some]; with_reducible rfl
          exact ⟨hil, by simp, trivial⟩
    · have hil' := hil
      have hWe : weiE r ws = if covered (holdsOf r ws) r.layers < r.layers.toNat then 9 else 0 := by unfold weiE; rw [if_pos hr, if_neg (by omega), if_pos hok]
      have cI := ownInts_ok ws (by omega)
      have cW := Weights_ok r ws (by omega)
      have etk : (ws.map fun n => iv n).take ws.length = ws.map fun n => iv n := List.take_of_length_le (by simp)
      have hwl : (ws.map fun n => iv n).length = ws.length := by simp
      unfold weiT weiK RollA.av RollA.cells at cW
      clear hB hbI
      by_cases hcc : covered (holdsOf r ws) r.layers < r.layers.toNat
      · rw [if_pos hcc] at hWe
        rw [hWe, if_neg (by omega), if_pos rfl, List.map_nil] at cW
        have hno : someOn (holdsOf r ws) (r.layers - 1 - covered (holdsOf r ws) r.layers) = false := by
          have := firstP_yes (p := fun j => !someOn (holdsOf r ws) (r.layers - 1 - j)) (N := r.layers.toNat) hcc
          simpa [covered] using this
        obtain ⟨kk, hkk⟩ : ∃ kk : Nat, r.layers - 1 - (covered (holdsOf r ws) r.layers : Int) = kk := ⟨(r.layers - 1 - covered (holdsOf r ws) r.layers).toNat, by omega⟩
        rw [hkk] at cW hno
        repeat (first | apply Wp.seqA | apply Wp.skipS | apply Wp.blockS | ((first | apply Wp.regS | apply Wp.condV | apply Wp.reg | apply Wp.condW | apply fin_ret); simp -implicitDefEqProofs (maxSteps := 2000000) (disch := first | exact tt_rfl rfl | omega | (simp only [go_sem] <;> omega) | fail) only [go_sem, hil, Int.ofNat_lt, etk, hwl, cI, cW, bne_self_eq_false, List.length_nil, eq_true (show (([] : List AV).length : Int) = 0 from rfl), eq_true (show ((0 : Nat) : Int) = 0 from rfl), show ¬ (kk : Int) < 0 by omega, show ¬ (kk : Int) ≥ r.layers by omega] <;> try with_reducible rfl) | apply Wp.block | apply Wp.exitS | apply Wp.retS | apply Wp.exit | apply Wp.ret | apply Wp.skip)
        apply Wp.loopF ws.length (fun i => ⟨[(8, .slice 512 0 ws.length), (10, .func 59 [.ptr 640 0 0]), (16, iv kk), (18, iv i)], [(512, .arr 1 (ws.map fun n => iv n)), (640, .box [iv r.core, iv r.thick, iv r.layers, iv r.pulley, iv r.plo, iv r.phi])], [], 10000000⟩) (fun _ => True)
        · simp -implicitDefEqProofs (maxSteps := 2000000) (disch := first | exact tt_rfl rfl | omega | (simp only [go_sem] <;> omega) | fail) only [go_sem, norm_eq, Ok.some]
          rfl
        · trivial
        intro j hj _
        by_cases hjl : j < ws.length
        · have hc := hp ws[j] (List.getElem_mem hjl) kk (by omega) (by omega)
          rw [decide_eq_false fun h => by
            have h2 := (holdW_on hr ws[j] kk (by omega)).2 h
            have h3 : someOn (holdsOf r ws) kk = true := List.any_eq_true.2 ⟨_, List.mem_map.2 ⟨ws[j], List.getElem_mem hjl, rfl⟩, decide_eq_true h2⟩
            rw [hno] at h3; cases h3] at hc
          repeat (first | apply Wp.seqA | apply Wp.skipS | apply Wp.blockS | ((first | apply Wp.regS | apply Wp.condV | apply Wp.reg | apply Wp.condW | apply fin_ret); simp -implicitDefEqProofs (maxSteps := 2000000) (disch := first | exact tt_rfl rfl | omega | (simp only [go_sem] <;> omega) | fail) only [go_sem, hjl, Int.ofNat_lt, List.getElem?_map, List.getElem?_eq_getElem hjl, Option.map_some, hc] <;> try with_reducible rfl) | apply Wp.block | apply Wp.exitS | apply Wp.retS | apply Wp.exit | apply Wp.ret | apply Wp.skip)
          apply round_next
          · simp -implicitDefEqProofs (maxSteps := 2000000) (disch := first | exact tt_rfl rfl | omega | (simp only [go_sem] <;> omega) | fail) only [go_sem, norm_eq, Ok.some]; with_reducible rfl
          exact ⟨hjl, by simp, trivial⟩
        · repeat (first | apply Wp.seqA | apply Wp.skipS | apply Wp.blockS | ((first | apply Wp.regS | apply Wp.condV | apply Wp.reg | apply Wp.condW | apply fin_ret); simp -implicitDefEqProofs (maxSteps := 2000000) (disch := first | exact tt_rfl rfl | omega | (simp only [go_sem] <;> omega) | fail) only [go_sem, hjl, Int.ofNat_lt, kn] <;> try with_reducible rfl) | apply Wp.block | apply Wp.exitS | apply Wp.retS | apply Wp.exit | apply Wp.ret | apply Wp.skip)
      · rw [if_neg hcc] at hWe
        rw [hWe, if_pos rfl, if_neg (by omega)] at cW
        have hcv := cover_all hcc
        have hpos := holds_pos hr ws
        have hat := turns_at hcv hpos r.layers.toNat (Nat.le_refl _)
        have hbest := fun k (hk : k < r.layers.toNat) => (turns_best hcv hpos hk).1
        have hne : 0 < (turnsW (holdsOf r ws) r.layers.toNat).length := by
          match hq : r.layers.toNat with
          | 0 => omega
          | q + 1 => rw [turnsW_succ]; simp
        have hpw : ∀ k, k < r.layers.toNat → ∃ w, w ∈ ws ∧ pick (holdsOf r ws) k = holdW r w ∧ (holdW r w).on k := fun k hk => by
          obtain ⟨p1, p2, _⟩ := pick_mem (hcv k hk)
          obtain ⟨w, hw, he⟩ := List.mem_map.1 p1
          exact ⟨w, hw, he.symm, by rw [he]; exact p2⟩
        have hws0 : 0 < ws.length := by
          obtain ⟨w, hw, _⟩ := hpw 0 (by omega)
          exact List.length_pos_of_mem hw
        have hmore : weiE r (ws ++ [1 + v0]) = 0 ∧ (turnsW (holdsOf r (ws ++ [1 + v0])) r.layers.toNat).length ≤ (turnsW (holdsOf r ws) r.layers.toNat).length := by
          have hsub : ∀ h ∈ holdsOf r ws, h ∈ holdsOf r (ws ++ [1 + v0]) := fun h hh => by
            unfold holdsOf at hh ⊢
            rw [List.map_append]
            exact List.mem_append_left _ hh
          have hok' : ∀ w ∈ ws ++ [1 + v0], WeiOk w := fun w hw => by
            rcases List.mem_append.1 hw with h | h
            · exact hok w h
            · rw [List.mem_singleton.1 h]; unfold WeiOk; omega
          have hcv' : Cover (holdsOf r (ws ++ [1 + v0])) r.layers.toNat := fun k hk => someOn_sub hsub (hcv k hk)
          have hcc' : ¬ covered (holdsOf r (ws ++ [1 + v0])) r.layers < r.layers.toNat := fun h => by
            have h1 := firstP_yes (p := fun j => !someOn (holdsOf r (ws ++ [1 + v0])) (r.layers - 1 - j)) (N := r.layers.toNat) h
            have h2 := hcv' (r.layers.toNat - 1 - covered (holdsOf r (ws ++ [1 + v0])) r.layers) (by omega)
            rw [show ((r.layers.toNat - 1 - covered (holdsOf r (ws ++ [1 + v0])) r.layers : Nat) : Int) = r.layers - 1 - (covered (holdsOf r (ws ++ [1 + v0])) r.layers : Int) by omega] at h2
            change (!someOn (holdsOf r (ws ++ [1 + v0])) (r.layers - 1 - (covered (holdsOf r (ws ++ [1 + v0])) r.layers : Int))) = true at h1
            rw [h2] at h1
            cases h1
          refine ⟨?_, turns_more hsub hcv hcv' hpos (holds_pos hr _) _ (Nat.le_refl _)⟩
          unfold weiE
          rw [if_pos hr, if_neg (by simp; omega), if_pos hok', if_neg hcc']
        have cM := Weights_ok r (ws ++ [1 + v0]) (by simp; omega)
        unfold weiT weiK RollA.av RollA.cells at cM
        rw [hmore.1, if_pos rfl, if_neg (by omega), List.map_append, List.map_cons, List.map_nil] at cM
        replace hmore := hmore.2
        generalize turnsW (holdsOf r (ws ++ [1 + v0])) r.layers.toNat = tm at *
        have hfn := turnsW_len (holdsOf r ws) r.layers.toNat
        generalize htw : turnsW (holdsOf r ws) r.layers.toNat = tw at *
        have htl : (tw.map TurnA.av).length = tw.length := by simp
        have html : (tm.map TurnA.av).length = tm.length := by simp
        have h00 : tw[0]? = some ⟨r.layers - 1, (pick (holdsOf r ws) (r.layers.toNat - 1)).w⟩ := by
          obtain ⟨k, k1, k2, k3, _⟩ := hat 0 hne
          have := k3 rfl
          rw [List.getElem?_eq_getElem hne, k2, show k = r.layers.toNat - 1 by omega, show ((r.layers.toNat - 1 : Nat) : Int) = r.layers - 1 by omega]
        repeat (first | apply Wp.seqA | apply Wp.skipS | apply Wp.blockS | ((first | apply Wp.regS | apply Wp.condV | apply Wp.reg | apply Wp.condW | apply fin_ret); simp -implicitDefEqProofs (maxSteps := 2000000) (disch := first | exact tt_rfl rfl | omega | (simp only [go_sem] <;> omega) | fail) only [go_sem, hil, Int.ofNat_lt, etk, hwl, cI, cW, htl, bne_self_eq_false, show ¬ (tw.length : Int) = 0 by omega, List.getElem?_map, h00, Option.map_some, TurnA.av.eq_1, hne] <;> try with_reducible rfl) | apply Wp.block | apply Wp.exitS | apply Wp.retS | apply Wp.exit | apply Wp.ret | apply Wp.skip)
        apply Wp.loopF tw.length (fun i => ⟨[(2, .list 1 (tr.map fun n => .int .u8 (n.1 : Int))), (3, .ptr 192 0 0), (7, .ptr 448 0 0), (8, .slice 512 0 ws.length), (10, .func 59 [.ptr 448 0 0]), (15, .slice 960 0 tw.length), (19, iv i)], [(192, .box [.int .u8 v0, .int .u8 r.thick, .int .u8 v2, .int .u8 v3, .int .u8 v4, .int .u8 v5]), (448, .box [iv r.core, iv r.thick, iv r.layers, iv r.pulley, iv r.plo, iv r.phi]), (512, .arr 1 (ws.map fun n => iv n)), (960, .arr 2 (tw.map TurnA.av))], [], 10000000⟩) (fun _ => True)
        · simp -implicitDefEqProofs (maxSteps := 2000000) (disch := first | exact tt_rfl rfl | omega | (simp only [go_sem] <;> omega) | fail) only [go_sem, norm_eq, Ok.some]
          rfl
        · trivial
        intro j hj _
        by_cases hjl : j < tw.length
        · obtain ⟨k, k1, k2, _, k4, k5⟩ := hat j hjl
          obtain ⟨w, hw, he, hon⟩ := hpw k k1
          have hin := (holdW_in hr w).1
          have hwe : (holdW r w).w = w := rfl
          rw [he] at k4 k5
          have g0 : tw[j]? = some ⟨k, w⟩ := by rw [List.getElem?_eq_getElem hjl, k2, he, hwe]
          have hpk := hp w hw
          have hok2 := fun (k : Nat) (hk : (k : Int) < r.layers) => holdW_on hr w k hk
          obtain ⟨o1, o2⟩ := hon
          obtain ⟨lo, hlo⟩ : ∃ lo : Nat, (holdW r w).lo = lo := ⟨(holdW r w).lo.toNat, by omega⟩
          unfold HoldA.on at hok2
          rw [hlo] at k4 k5 o1 hok2
          by_cases hjn : j + 1 < tw.length
          · have hl4 := k4 hjn
            have g1 : tw[j + 1]? = some tw[j + 1] := List.getElem?_eq_getElem hjn
            generalize tw[j + 1] = t1 at g1 hl4
            have hj1 : ((j : Int) + 1) = ((j + 1 : Nat) : Int) := by omega
            have hj2 : ((j + 1 : Nat) : Int) < tw.length := by omega
            repeat (first | apply Wp.seqA | apply Wp.skipS | apply Wp.blockS | ((first | apply Wp.regS | apply Wp.condV | apply Wp.reg | apply Wp.condW | apply fin_ret); simp -implicitDefEqProofs (maxSteps := 2000000) (disch := first | exact tt_rfl rfl | omega | (simp only [go_sem] <;> omega) | fail) only [go_sem, show (j : Int) < tw.length by omega, htl, hj1, hj2, List.getElem?_map, g0, g1, Option.map_some, TurnA.av.eq_1, hl4, show ¬ (k : Int) < lo by omega, show ¬ (k : Int) ≥ r.layers by omega, show ¬ (lo : Int) < 0 by omega] <;> try with_reducible rfl) | apply Wp.block | apply Wp.exitS | apply Wp.retS | apply Wp.exit | apply Wp.ret | apply Wp.skip)
            apply Wp.loopF (k + 1 - lo) (fun m => ⟨[(2, .list 1 (tr.map fun n => .int .u8 (n.1 : Int))), (3, .ptr 192 0 0), (7, .ptr 448 0 0), (8, .slice 512 0 ws.length), (10, .func 59 [.ptr 448 0 0]), (15, .slice 960 0 tw.length), (19, iv j), (21, iv ((lo + m : Nat) : Int))], [(192, .box [.int .u8 v0, .int .u8 r.thick, .int .u8 v2, .int .u8 v3, .int .u8 v4, .int .u8 v5]), (448, .box [iv r.core, iv r.thick, iv r.layers, iv r.pulley, iv r.plo, iv r.phi]), (512, .arr 1 (ws.map fun n => iv n)), (960, .arr 2 (tw.map TurnA.av))], [], 10000000⟩) (fun _ => True)
            · simp -implicitDefEqProofs (maxSteps := 2000000) (disch := first | exact tt_rfl rfl | omega | (simp only [go_sem] <;> omega) | fail) only [go_sem, norm_eq, Ok.some]
              try rfl
            · trivial
            intro m hm _
            by_cases hmk : lo + m ≤ k
            · have hc := hpk ((lo + m : Nat) : Int) (by omega) (by omega)
              rw [decide_eq_true ((hok2 (lo + m) (by omega)).1 ⟨by omega, by omega⟩)] at hc
              have hcc2 : ((lo + m : Nat) : Int) ≤ (k : Int) := by omega
              have hmm : ((lo + m : Nat) : Int) + 1 = ((lo + (m + 1) : Nat) : Int) := by omega
              have hm0 : 0 ≤ ((lo + m : Nat) : Int) ∧ ((lo + m : Nat) : Int) ≤ 1000 := by omega
              generalize ((lo + m : Nat) : Int) = q at *
              repeat (first | apply Wp.seqA | apply Wp.skipS | apply Wp.blockS | ((first | apply Wp.regS | apply Wp.condV | apply Wp.reg | apply Wp.condW | apply fin_ret); simp -implicitDefEqProofs (maxSteps := 2000000) (disch := first | exact tt_rfl rfl | omega | (simp only [go_sem] <;> omega) | fail) only [go_sem, show (j : Int) < tw.length by omega, htl, List.getElem?_map, g0, Option.map_some, TurnA.av.eq_1, hc, hcc2] <;> try with_reducible rfl) | apply Wp.block | apply Wp.exitS | apply Wp.retS | apply Wp.exit | apply Wp.ret | apply Wp.skip)
              apply round_next
              · simp -implicitDefEqProofs (maxSteps := 2000000) (disch := first | exact tt_rfl rfl | omega | (simp only [go_sem] <;> omega) | fail) only [go_sem, norm_eq, Ok.some]; with_reducible rfl
              exact ⟨by omega, by rw [← hmm], trivial⟩
            · have hcc2 : ¬ ((lo + m : Nat) : Int) ≤ (k : Int) := by omega
              repeat (first | apply Wp.seqA | apply Wp.skipS | apply Wp.blockS | ((first | apply Wp.regS | apply Wp.condV | apply Wp.reg | apply Wp.condW | apply fin_ret); simp -implicitDefEqProofs (maxSteps := 2000000) (disch := first | exact tt_rfl rfl | omega | (simp only [go_sem] <;> omega) | fail) only [go_sem, show (j : Int) < tw.length by omega, htl, List.getElem?_map, g0, Option.map_some, TurnA.av.eq_1, hcc2] <;> try with_reducible rfl) | apply Wp.block | apply Wp.exitS | apply Wp.retS | apply Wp.exit | apply Wp.ret | apply Wp.skip)
              apply round_next
              · simp -implicitDefEqProofs (maxSteps := 2000000) (disch := first | exact tt_rfl rfl | omega | (simp only [go_sem] <;> omega) | fail) only [go_sem, norm_eq, Ok.some]; with_reducible rfl
              exact ⟨hjl, by simp, trivial⟩
          · have hl5 : (lo : Int) = 0 := k5 (by omega)
            obtain rfl : lo = 0 := by omega
            have hj1 : ¬ (j : Int) + 1 < tw.length := by omega
            repeat (first | apply Wp.seqA | apply Wp.skipS | apply Wp.blockS | ((first | apply Wp.regS | apply Wp.condV | apply Wp.reg | apply Wp.condW | apply fin_ret); simp -implicitDefEqProofs (maxSteps := 2000000) (disch := first | exact tt_rfl rfl | omega | (simp only [go_sem] <;> omega) | fail) only [go_sem, show (j : Int) < tw.length by omega, htl, hj1, List.getElem?_map, g0, Option.map_some, TurnA.av.eq_1, show ¬ (k : Int) < 0 by omega, show ¬ (k : Int) ≥ r.layers by omega] <;> try with_reducible rfl) | apply Wp.block | apply Wp.exitS | apply Wp.retS | apply Wp.exit | apply Wp.ret | apply Wp.skip)
            apply Wp.loopF (k + 1 - 0) (fun m => ⟨[(2, .list 1 (tr.map fun n => .int .u8 (n.1 : Int))), (3, .ptr 192 0 0), (7, .ptr 448 0 0), (8, .slice 512 0 ws.length), (10, .func 59 [.ptr 448 0 0]), (15, .slice 960 0 tw.length), (19, iv j), (21, iv (m : Int))], [(192, .box [.int .u8 v0, .int .u8 r.thick, .int .u8 v2, .int .u8 v3, .int .u8 v4, .int .u8 v5]), (448, .box [iv r.core, iv r.thick, iv r.layers, iv r.pulley, iv r.plo, iv r.phi]), (512, .arr 1 (ws.map fun n => iv n)), (960, .arr 2 (tw.map TurnA.av))], [], 10000000⟩) (fun _ => True)
            · simp -implicitDefEqProofs (maxSteps := 2000000) (disch := first | exact tt_rfl rfl | omega | (simp only [go_sem] <;> omega) | fail) only [go_sem, norm_eq, Ok.some]
              try rfl
            · trivial
            intro m hm _
            by_cases hmk : m ≤ k
            · have hc := hpk (m : Int) (by omega) (by omega)
              rw [decide_eq_true ((hok2 (m) (by omega)).1 ⟨by omega, by omega⟩)] at hc
              have hcc2 : (m : Int) ≤ (k : Int) := by omega
              have hmm : (m : Int) + 1 = ((m + 1 : Nat) : Int) := by omega
              have hm0 : 0 ≤ (m : Int) ∧ (m : Int) ≤ 1000 := by omega
              generalize (m : Int) = q at *
              repeat (first | apply Wp.seqA | apply Wp.skipS | apply Wp.blockS | ((first | apply Wp.regS | apply Wp.condV | apply Wp.reg | apply Wp.condW | apply fin_ret); simp -implicitDefEqProofs (maxSteps := 2000000) (disch := first | exact tt_rfl rfl | omega | (simp only [go_sem] <;> omega) | fail) only [go_sem, show (j : Int) < tw.length by omega, htl, List.getElem?_map, g0, Option.map_some, TurnA.av.eq_1, hc, hcc2] <;> try with_reducible rfl) | apply Wp.block | apply Wp.exitS | apply Wp.retS | apply Wp.exit | apply Wp.ret | apply Wp.skip)
              apply round_next
              · simp -implicitDefEqProofs (maxSteps := 2000000) (disch := first | exact tt_rfl rfl | omega | (simp only [go_sem] <;> omega) | fail) only [go_sem, norm_eq, Ok.some]; with_reducible rfl
              exact ⟨by omega, by rw [← hmm], trivial⟩
            · have hcc2 : ¬ (m : Int) ≤ (k : Int) := by omega
              repeat (first | apply Wp.seqA | apply Wp.skipS | apply Wp.blockS | ((first | apply Wp.regS | apply Wp.condV | apply Wp.reg | apply Wp.condW | apply fin_ret); simp -implicitDefEqProofs (maxSteps := 2000000) (disch := first | exact tt_rfl rfl | omega | (simp only [go_sem] <;> omega) | fail) only [go_sem, show (j : Int) < tw.length by omega, htl, List.getElem?_map, g0, Option.map_some, TurnA.av.eq_1, hcc2] <;> try with_reducible rfl) | apply Wp.block | apply Wp.exitS | apply Wp.retS | apply Wp.exit | apply Wp.ret | apply Wp.skip)
              apply round_next
              · simp -implicitDefEqProofs (maxSteps := 2000000) (disch := first | exact tt_rfl rfl | omega | (simp only [go_sem] <;> omega) | fail) only [go_sem, norm_eq, Ok.some]; with_reducible rfl
              exact ⟨hjl, by simp, trivial⟩
        · repeat (first | apply Wp.seqA | apply Wp.skipS | apply Wp.blockS | ((first | apply Wp.regS | apply Wp.condV | apply Wp.reg | apply Wp.condW | apply fin_ret); simp -implicitDefEqProofs (maxSteps := 2000000) (disch := first | exact tt_rfl rfl | omega | (simp only [go_sem] <;> omega) | fail) only [go_sem, hjl, htl, Int.ofNat_lt] <;> try with_reducible rfl) | apply Wp.block | apply Wp.exitS | apply Wp.retS | apply Wp.exit | apply Wp.ret | apply Wp.skip)
          apply Wp.loopN 1000 (fun i fr => ∃ (n many : Nat), fr = ⟨[(2, .list 1 (tr.map fun n => .int .u8 (n.1 : Int))), (3, .ptr 192 0 0), (7, .ptr 448 0 0), (8, .slice 512 0 ws.length), (10, .func 59 [.ptr 448 0 0]), (15, .slice 960 0 tw.length), (22, iv ((n : Int) - 1)), (23, iv many), (24, iv i)], [(192, .box [.int .u8 v0, .int .u8 r.thick, .int .u8 v2, .int .u8 v3, .int .u8 v4, .int .u8 v5]), (448, .box [iv r.core, iv r.thick, iv r.layers, iv r.pulley, iv r.plo, iv r.phi]), (512, .arr 1 (ws.map fun n => iv n)), (960, .arr 2 (tw.map TurnA.av))], [], 10000000⟩ ∧ n ≤ r.layers.toNat ∧ many ≤ i ∧ tw.length ≤ many + (turnsW (holdsOf r ws) n).length)
          · simp -implicitDefEqProofs (maxSteps := 2000000) (disch := first | exact tt_rfl rfl | omega | (simp only [go_sem] <;> omega) | fail) only [go_sem, norm_eq, Ok.some]
            refine ⟨r.layers.toNat, 0, ?_, Nat.le_refl _, Nat.le_refl _, by rw [htw]; omega⟩
            rw [show ((r.layers.toNat : Nat) : Int) = r.layers by omega]
            rfl
          rintro i fr hi1000 ⟨n, many, rfl, hn, hmi, hmany⟩
          by_cases hgo : 0 < n ∧ i < 1000
          · obtain ⟨k, rfl⟩ : ∃ k, n = k + 1 := ⟨n - 1, by omega⟩
            have hk : ((k + 1 : Nat) : Int) - 1 = k := by omega
            have hbk := hbest k (by omega)
            rw [hk]
            have i8 := tmod_nat i 8
            rw [show ((8 : Nat) : Int) = 8 from rfl] at i8
            have iw := tmod_nat i ws.length
            have iwl : i % ws.length < ws.length := Nat.mod_lt _ hws0
            have giw : ws[i % ws.length]? = some ws[i % ws.length] := List.getElem?_eq_getElem iwl
            have miw : ws[i % ws.length] ∈ ws := List.getElem_mem iwl
            have gw0 : ws[0]? = some ws[0] := List.getElem?_eq_getElem hws0
            have mw0 : ws[0] ∈ ws := List.getElem_mem hws0
            generalize ws[i % ws.length] = wi at giw miw
            generalize ws[0] = w0 at gw0 mw0
            by_cases htr : 0 < tr.length
            · have it := tmod_nat i tr.length
              have itl : i % tr.length < tr.length := Nat.mod_lt _ htr
              have git : tr[i % tr.length]? = some tr[i % tr.length] := List.getElem?_eq_getElem itl
              generalize tr[i % tr.length] = tb at git
              have htb := tb.2
              have jt := tmod_nat tb.1 ws.length
              have jtl : tb.1 % ws.length < ws.length := Nat.mod_lt _ hws0
              have gjt : ws[tb.1 % ws.length]? = some ws[tb.1 % ws.length] := List.getElem?_eq_getElem jtl
              have mjt : ws[tb.1 % ws.length] ∈ ws := List.getElem_mem jtl
              generalize ws[tb.1 % ws.length] = wt at gjt mjt
              generalize tb.1 % ws.length = j1 at *
              generalize i % tr.length = j2 at *
              generalize i % ws.length = j3 at *
              by_cases h5 : 5 < i % 8
              · have h5' : (((i % 8 : Nat) : Nat) : Int) > 5 := by omega
                generalize i % 8 = j4 at *
                have hwm := miw
                have hpk := hp wi hwm
                have hok2 := fun (k : Nat) (hk : (k : Int) < r.layers) => holdW_on hr wi k hk
                have hin := (holdW_in hr wi).1
                have hbw := hbk (holdW r wi) (List.mem_map.2 ⟨wi, hwm, rfl⟩)
                obtain ⟨lo, hlo⟩ : ∃ lo : Nat, (holdW r wi).lo = lo := ⟨(holdW r wi).lo.toNat, by omega⟩
                by_cases hon : (holdW r wi).on k
                · have hc := hpk k (by omega) (by omega)
                  rw [decide_eq_true ((hok2 k (by omega)).1 hon)] at hc
                  have hb1 := hbw hon
                  unfold HoldA.on at hok2
                  obtain ⟨o1, o2⟩ := hon
                  rw [hlo] at o1 hok2 hb1
                  rw [Int.toNat_natCast] at hb1
                  repeat (first | apply Wp.seqA | apply Wp.skipS | apply Wp.blockS | ((first | apply Wp.regS | apply Wp.condV | apply Wp.reg | apply Wp.condW | apply fin_ret); simp -implicitDefEqProofs (maxSteps := 2000000) (disch := first | exact tt_rfl rfl | omega | (simp only [go_sem] <;> omega) | fail) only [go_sem, show (k : Int) ≥ 0 by omega, show (i : Int) < 1000 by omega, hwl, gt_iff_lt, List.getElem?_map, Option.map_some, gw0, i8, h5', show (0 : Int) < tr.length by omega, show (tr.length : Int) ≠ 0 by omega, it, itl, git, jt, jtl, gjt, show (ws.length : Int) ≠ 0 by omega, iw, iwl, giw, hc] <;> try with_reducible rfl) | apply Wp.block | apply Wp.exitS | apply Wp.retS | apply Wp.exit | apply Wp.ret | apply Wp.skip)
                  apply Wp.loopM (fun m fr => fr = ⟨[(2, .list 1 (tr.map fun n => .int .u8 (n.1 : Int))), (3, .ptr 192 0 0), (7, .ptr 448 0 0), (8, .slice 512 0 ws.length), (10, .func 59 [.ptr 448 0 0]), (15, .slice 960 0 tw.length), (22, iv ((m : Int) - 1)), (23, iv ((many + 1 : Nat) : Int)), (24, iv i), (25, iv wi)], [(192, .box [.int .u8 v0, .int .u8 r.thick, .int .u8 v2, .int .u8 v3, .int .u8 v4, .int .u8 v5]), (448, .box [iv r.core, iv r.thick, iv r.layers, iv r.pulley, iv r.plo, iv r.phi]), (512, .arr 1 (ws.map fun n => iv n)), (960, .arr 2 (tw.map TurnA.av))], [], 10000000⟩ ∧ lo ≤ m ∧ m ≤ k + 1)
                  · simp -implicitDefEqProofs (maxSteps := 2000000) (disch := first | exact tt_rfl rfl | omega | (simp only [go_sem] <;> omega) | fail) only [go_sem, norm_eq, Ok.some]
                    exact ⟨k + 1, by rw [hk]; simp, by omega, Nat.le_refl _⟩
                  rintro m fr ⟨rfl, hm1, hm2⟩
                  match m, hm1, hm2 with
                  | 0, hm1, _ =>
                    have : lo = 0 := by omega
                    repeat (first | apply Wp.seqA | apply Wp.skipS | apply Wp.blockS | ((first | apply Wp.regS | apply Wp.condV | apply Wp.reg | apply Wp.condW | apply fin_ret); simp -implicitDefEqProofs (maxSteps := 2000000) (disch := first | exact tt_rfl rfl | omega | (simp only [go_sem] <;> omega) | fail) only [go_sem, show ¬ ((0 : Nat) : Int) - 1 ≥ 0 by omega] <;> try with_reducible rfl) | apply Wp.block | apply Wp.exitS | apply Wp.retS | apply Wp.exit | apply Wp.ret | apply Wp.skip)
                    apply round_next (Q := fun _ _ => False)
                    · simp -implicitDefEqProofs (maxSteps := 2000000) (disch := first | exact tt_rfl rfl | omega | (simp only [go_sem] <;> omega) | fail) only [go_sem, norm_eq, Ok.some]; with_reducible rfl
                    exact ⟨by omega, 0, many + 1, by simp, by omega, by omega, by rw [this] at hb1; omega⟩
                  | q + 1, hm1, hm2 =>
                    have hq : ((q + 1 : Nat) : Int) - 1 = q := by omega
                    rw [hq]
                    have hcq := hpk q (by omega) (by omega)
                    by_cases hlq : lo ≤ q
                    · rw [decide_eq_true ((hok2 q (by omega)).1 ⟨by omega, by omega⟩)] at hcq
                      repeat (first | apply Wp.seqA | apply Wp.skipS | apply Wp.blockS | ((first | apply Wp.regS | apply Wp.condV | apply Wp.reg | apply Wp.condW | apply fin_ret); simp -implicitDefEqProofs (maxSteps := 2000000) (disch := first | exact tt_rfl rfl | omega | (simp only [go_sem] <;> omega) | fail) only [go_sem, show (q : Int) ≥ 0 by omega, hcq] <;> try with_reducible rfl) | apply Wp.block | apply Wp.exitS | apply Wp.retS | apply Wp.exit | apply Wp.ret | apply Wp.skip)
                      apply round_next (Q := fun _ _ => False)
                      · simp -implicitDefEqProofs (maxSteps := 2000000) (disch := first | exact tt_rfl rfl | omega | (simp only [go_sem] <;> omega) | fail) only [go_sem, norm_eq, Ok.some]; with_reducible rfl
                      exact ⟨q, by omega, rfl, by omega, by omega⟩
                    · have : lo = q + 1 := by omega
                      rw [decide_eq_false fun h => by have := (hok2 q (by omega)).2 h; omega] at hcq
                      repeat (first | apply Wp.seqA | apply Wp.skipS | apply Wp.blockS | ((first | apply Wp.regS | apply Wp.condV | apply Wp.reg | apply Wp.condW | apply fin_ret); simp -implicitDefEqProofs (maxSteps := 2000000) (disch := first | exact tt_rfl rfl | omega | (simp only [go_sem] <;> omega) | fail) only [go_sem, show (q : Int) ≥ 0 by omega, hcq] <;> try with_reducible rfl) | apply Wp.block | apply Wp.exitS | apply Wp.retS | apply Wp.exit | apply Wp.ret | apply Wp.skip)
                      apply round_next (Q := fun _ _ => False)
                      · simp -implicitDefEqProofs (maxSteps := 2000000) (disch := first | exact tt_rfl rfl | omega | (simp only [go_sem] <;> omega) | fail) only [go_sem, norm_eq, Ok.some]; with_reducible rfl
                      exact ⟨by omega, q + 1, many + 1, by rw [hq]; simp, by omega, by omega, by rw [this] at hb1; omega⟩
                · have hc := hpk k (by omega) (by omega)
                  rw [decide_eq_false fun h => hon ((hok2 k (by omega)).2 h)] at hc
                  repeat (first | apply Wp.seqA | apply Wp.skipS | apply Wp.blockS | ((first | apply Wp.regS | apply Wp.condV | apply Wp.reg | apply Wp.condW | apply fin_ret); simp -implicitDefEqProofs (maxSteps := 2000000) (disch := first | exact tt_rfl rfl | omega | (simp only [go_sem] <;> omega) | fail) only [go_sem, show (k : Int) ≥ 0 by omega, show (i : Int) < 1000 by omega, hwl, gt_iff_lt, List.getElem?_map, Option.map_some, gw0, i8, h5', show (0 : Int) < tr.length by omega, show (tr.length : Int) ≠ 0 by omega, it, itl, git, jt, jtl, gjt, show (ws.length : Int) ≠ 0 by omega, iw, iwl, giw, hc] <;> try with_reducible rfl) | apply Wp.block | apply Wp.exitS | apply Wp.retS | apply Wp.exit | apply Wp.ret | apply Wp.skip)
                  apply round_next (Q := fun _ _ => False)
                  · simp -implicitDefEqProofs (maxSteps := 2000000) (disch := first | exact tt_rfl rfl | omega | (simp only [go_sem] <;> omega) | fail) only [go_sem, norm_eq, Ok.some]; with_reducible rfl
                  exact ⟨by omega, k + 1, many, by rw [hk]; simp, by omega, by omega, hmany⟩
              · have h5' : ¬ (((i % 8 : Nat) : Nat) : Int) > 5 := by omega
                generalize i % 8 = j4 at *
                have hwm := mjt
                have hpk := hp wt hwm
                have hok2 := fun (k : Nat) (hk : (k : Int) < r.layers) => holdW_on hr wt k hk
                have hin := (holdW_in hr wt).1
                have hbw := hbk (holdW r wt) (List.mem_map.2 ⟨wt, hwm, rfl⟩)
                obtain ⟨lo, hlo⟩ : ∃ lo : Nat, (holdW r wt).lo = lo := ⟨(holdW r wt).lo.toNat, by omega⟩
                by_cases hon : (holdW r wt).on k
                · have hc := hpk k (by omega) (by omega)
                  rw [decide_eq_true ((hok2 k (by omega)).1 hon)] at hc
                  have hb1 := hbw hon
                  unfold HoldA.on at hok2
                  obtain ⟨o1, o2⟩ := hon
                  rw [hlo] at o1 hok2 hb1
                  rw [Int.toNat_natCast] at hb1
                  repeat (first | apply Wp.seqA | apply Wp.skipS | apply Wp.blockS | ((first | apply Wp.regS | apply Wp.condV | apply Wp.reg | apply Wp.condW | apply fin_ret); simp -implicitDefEqProofs (maxSteps := 2000000) (disch := first | exact tt_rfl rfl | omega | (simp only [go_sem] <;> omega) | fail) only [go_sem, show (k : Int) ≥ 0 by omega, show (i : Int) < 1000 by omega, hwl, gt_iff_lt, List.getElem?_map, Option.map_some, gw0, i8, h5', show (0 : Int) < tr.length by omega, show (tr.length : Int) ≠ 0 by omega, it, itl, git, jt, jtl, gjt, show (ws.length : Int) ≠ 0 by omega, hc] <;> try with_reducible rfl) | apply Wp.block | apply Wp.exitS | apply Wp.retS | apply Wp.exit | apply Wp.ret | apply Wp.skip)
                  apply Wp.loopM (fun m fr => fr = ⟨[(2, .list 1 (tr.map fun n => .int .u8 (n.1 : Int))), (3, .ptr 192 0 0), (7, .ptr 448 0 0), (8, .slice 512 0 ws.length), (10, .func 59 [.ptr 448 0 0]), (15, .slice 960 0 tw.length), (22, iv ((m : Int) - 1)), (23, iv ((many + 1 : Nat) : Int)), (24, iv i), (25, iv wt)], [(192, .box [.int .u8 v0, .int .u8 r.thick, .int .u8 v2, .int .u8 v3, .int .u8 v4, .int .u8 v5]), (448, .box [iv r.core, iv r.thick, iv r.layers, iv r.pulley, iv r.plo, iv r.phi]), (512, .arr 1 (ws.map fun n => iv n)), (960, .arr 2 (tw.map TurnA.av))], [], 10000000⟩ ∧ lo ≤ m ∧ m ≤ k + 1)
                  · simp -implicitDefEqProofs (maxSteps := 2000000) (disch := first | exact tt_rfl rfl | omega | (simp only [go_sem] <;> omega) | fail) only [go_sem, norm_eq, Ok.some]
                    exact ⟨k + 1, by rw [hk]; simp, by omega, Nat.le_refl _⟩
                  rintro m fr ⟨rfl, hm1, hm2⟩
                  match m, hm1, hm2 with
                  | 0, hm1, _ =>
                    have : lo = 0 := by omega
                    repeat (first | apply Wp.seqA | apply Wp.skipS | apply Wp.blockS | ((first | apply Wp.regS | apply Wp.condV | apply Wp.reg | apply Wp.condW | apply fin_ret); simp -implicitDefEqProofs (maxSteps := 2000000) (disch := first | exact tt_rfl rfl | omega | (simp only [go_sem] <;> omega) | fail) only [go_sem, show ¬ ((0 : Nat) : Int) - 1 ≥ 0 by omega] <;> try with_reducible rfl) | apply Wp.block | apply Wp.exitS | apply Wp.retS | apply Wp.exit | apply Wp.ret | apply Wp.skip)
                    apply round_next (Q := fun _ _ => False)
                    · simp -implicitDefEqProofs (maxSteps := 2000000) (disch := first | exact tt_rfl rfl | omega | (simp only [go_sem] <;> omega) | fail) only [go_sem, norm_eq, Ok.some]; with_reducible rfl
                    exact ⟨by omega, 0, many + 1, by simp, by omega, by omega, by rw [this] at hb1; omega⟩
                  | q + 1, hm1, hm2 =>
                    have hq : ((q + 1 : Nat) : Int) - 1 = q := by omega
                    rw [hq]
                    have hcq := hpk q (by omega) (by omega)
                    by_cases hlq : lo ≤ q
                    · rw [decide_eq_true ((hok2 q (by omega)).1 ⟨by omega, by omega⟩)] at hcq
                      repeat (first | apply Wp.seqA | apply Wp.skipS | apply Wp.blockS | ((first | apply Wp.regS | apply Wp.condV | apply Wp.reg | apply Wp.condW | apply fin_ret); simp -implicitDefEqProofs (maxSteps := 2000000) (disch := first | exact tt_rfl rfl | omega | (simp only [go_sem] <;> omega) | fail) only [go_sem, show (q : Int) ≥ 0 by omega, hcq] <;> try with_reducible rfl) | apply Wp.block | apply Wp.exitS | apply Wp.retS | apply Wp.exit | apply Wp.ret | apply Wp.skip)
                      apply round_next (Q := fun _ _ => False)
                      · simp -implicitDefEqProofs (maxSteps := 2000000) (disch := first | exact tt_rfl rfl | omega | (simp only [go_sem] <;> omega) | fail) only [go_sem, norm_eq, Ok.some]; with_reducible rfl
                      exact ⟨q, by omega, rfl, by omega, by omega⟩
                    · have : lo = q + 1 := by omega
                      rw [decide_eq_false fun h => by have := (hok2 q (by omega)).2 h; omega] at hcq
                      repeat (first | apply Wp.seqA | apply Wp.skipS | apply Wp.blockS | ((first | apply Wp.regS | apply Wp.condV | apply Wp.reg | apply Wp.condW | apply fin_ret); simp -implicitDefEqProofs (maxSteps := 2000000) (disch := first | exact tt_rfl rfl | omega | (simp only [go_sem] <;> omega) | fail) only [go_sem, show (q : Int) ≥ 0 by omega, hcq] <;> try with_reducible rfl) | apply Wp.block | apply Wp.exitS | apply Wp.retS | apply Wp.exit | apply Wp.ret | apply Wp.skip)
                      apply round_next (Q := fun _ _ => False)
                      · simp -implicitDefEqProofs (maxSteps := 2000000) (disch := first | exact tt_rfl rfl | omega | (simp only [go_sem] <;> omega) | fail) only [go_sem, norm_eq, Ok.some]; with_reducible rfl
                      exact ⟨by omega, q + 1, many + 1, by rw [hq]; simp, by omega, by omega, by rw [this] at hb1; omega⟩
                · have hc := hpk k (by omega) (by omega)
                  rw [decide_eq_false fun h => hon ((hok2 k (by omega)).2 h)] at hc
                  repeat (first | apply Wp.seqA | apply Wp.skipS | apply Wp.blockS | ((first | apply Wp.regS | apply Wp.condV | apply Wp.reg | apply Wp.condW | apply fin_ret); simp -implicitDefEqProofs (maxSteps := 2000000) (disch := first | exact tt_rfl rfl | omega | (simp only [go_sem] <;> omega) | fail) only [go_sem, show (k : Int) ≥ 0 by omega, show (i : Int) < 1000 by omega, hwl, gt_iff_lt, List.getElem?_map, Option.map_some, gw0, i8, h5', show (0 : Int) < tr.length by omega, show (tr.length : Int) ≠ 0 by omega, it, itl, git, jt, jtl, gjt, show (ws.length : Int) ≠ 0 by omega, hc] <;> try with_reducible rfl) | apply Wp.block | apply Wp.exitS | apply Wp.retS | apply Wp.exit | apply Wp.ret | apply Wp.skip)
                  apply round_next (Q := fun _ _ => False)
                  · simp -implicitDefEqProofs (maxSteps := 2000000) (disch := first | exact tt_rfl rfl | omega | (simp only [go_sem] <;> omega) | fail) only [go_sem, norm_eq, Ok.some]; with_reducible rfl
                  exact ⟨by omega, k + 1, many, by rw [hk]; simp, by omega, by omega, hmany⟩
            · generalize i % ws.length = j3 at *
              by_cases h5 : 5 < i % 8
              · have h5' : (((i % 8 : Nat) : Nat) : Int) > 5 := by omega
                generalize i % 8 = j4 at *
                have hwm := miw
                have hpk := hp wi hwm
                have hok2 := fun (k : Nat) (hk : (k : Int) < r.layers) => holdW_on hr wi k hk
                have hin := (holdW_in hr wi).1
                have hbw := hbk (holdW r wi) (List.mem_map.2 ⟨wi, hwm, rfl⟩)
                obtain ⟨lo, hlo⟩ : ∃ lo : Nat, (holdW r wi).lo = lo := ⟨(holdW r wi).lo.toNat, by omega⟩
                by_cases hon : (holdW r wi).on k
                · have hc := hpk k (by omega) (by omega)
                  rw [decide_eq_true ((hok2 k (by omega)).1 hon)] at hc
                  have hb1 := hbw hon
                  unfold HoldA.on at hok2
                  obtain ⟨o1, o2⟩ := hon
                  rw [hlo] at o1 hok2 hb1
                  rw [Int.toNat_natCast] at hb1
                  repeat (first | apply Wp.seqA | apply Wp.skipS | apply Wp.blockS | ((first | apply Wp.regS | apply Wp.condV | apply Wp.reg | apply Wp.condW | apply fin_ret); simp -implicitDefEqProofs (maxSteps := 2000000) (disch := first | exact tt_rfl rfl | omega | (simp only [go_sem] <;> omega) | fail) only [go_sem, show (k : Int) ≥ 0 by omega, show (i : Int) < 1000 by omega, hwl, gt_iff_lt, List.getElem?_map, Option.map_some, gw0, i8, h5', show ¬ (0 : Int) < tr.length by omega, show (ws.length : Int) ≠ 0 by omega, iw, iwl, giw, hc] <;> try with_reducible rfl) | apply Wp.block | apply Wp.exitS | apply Wp.retS | apply Wp.exit | apply Wp.ret | apply Wp.skip)
                  apply Wp.loopM (fun m fr => fr = ⟨[(2, .list 1 (tr.map fun n => .int .u8 (n.1 : Int))), (3, .ptr 192 0 0), (7, .ptr 448 0 0), (8, .slice 512 0 ws.length), (10, .func 59 [.ptr 448 0 0]), (15, .slice 960 0 tw.length), (22, iv ((m : Int) - 1)), (23, iv ((many + 1 : Nat) : Int)), (24, iv i), (25, iv wi)], [(192, .box [.int .u8 v0, .int .u8 r.thick, .int .u8 v2, .int .u8 v3, .int .u8 v4, .int .u8 v5]), (448, .box [iv r.core, iv r.thick, iv r.layers, iv r.pulley, iv r.plo, iv r.phi]), (512, .arr 1 (ws.map fun n => iv n)), (960, .arr 2 (tw.map TurnA.av))], [], 10000000⟩ ∧ lo ≤ m ∧ m ≤ k + 1)
                  · simp -implicitDefEqProofs (maxSteps := 2000000) (disch := first | exact tt_rfl rfl | omega | (simp only [go_sem] <;> omega) | fail) only [go_sem, norm_eq, Ok.some]
                    exact ⟨k + 1, by rw [hk]; simp, by omega, Nat.le_refl _⟩
                  rintro m fr ⟨rfl, hm1, hm2⟩
                  match m, hm1, hm2 with
                  | 0, hm1, _ =>
                    have : lo = 0 := by omega
                    repeat (first | apply Wp.seqA | apply Wp.skipS | apply Wp.blockS | ((first | apply Wp.regS | apply Wp.condV | apply Wp.reg | apply Wp.condW | apply fin_ret); simp -implicitDefEqProofs (maxSteps := 2000000) (disch := first | exact tt_rfl rfl | omega | (simp only [go_sem] <;> omega) | fail) only [go_sem, show ¬ ((0 : Nat) : Int) - 1 ≥ 0 by omega] <;> try with_reducible rfl) | apply Wp.block | apply Wp.exitS | apply Wp.retS | apply Wp.exit | apply Wp.ret | apply Wp.skip)
                    apply round_next (Q := fun _ _ => False)
                    · simp -implicitDefEqProofs (maxSteps := 2000000) (disch := first | exact tt_rfl rfl | omega | (simp only [go_sem] <;> omega) | fail) only [go_sem, norm_eq, Ok.some]; with_reducible rfl
                    exact ⟨by omega, 0, many + 1, by simp, by omega, by omega, by rw [this] at hb1; omega⟩
                  | q + 1, hm1, hm2 =>
                    have hq : ((q + 1 : Nat) : Int) - 1 = q := by omega
                    rw [hq]
                    have hcq := hpk q (by omega) (by omega)
                    by_cases hlq : lo ≤ q
                    · rw [decide_eq_true ((hok2 q (by omega)).1 ⟨by omega, by omega⟩)] at hcq
                      repeat (first | apply Wp.seqA | apply Wp.skipS | apply Wp.blockS | ((first | apply Wp.regS | apply Wp.condV | apply Wp.reg | apply Wp.condW | apply fin_ret); simp -implicitDefEqProofs (maxSteps := 2000000) (disch := first | exact tt_rfl rfl | omega | (simp only [go_sem] <;> omega) | fail) only [go_sem, show (q : Int) ≥ 0 by omega, hcq] <;> try with_reducible rfl) | apply Wp.block | apply Wp.exitS | apply Wp.retS | apply Wp.exit | apply Wp.ret | apply Wp.skip)
                      apply round_next (Q := fun _ _ => False)
                      · simp -implicitDefEqProofs (maxSteps := 2000000) (disch := first | exact tt_rfl rfl | omega | (simp only [go_sem] <;> omega) | fail) only [go_sem, norm_eq, Ok.some]; with_reducible rfl
                      exact ⟨q, by omega, rfl, by omega, by omega⟩
                    · have : lo = q + 1 := by omega
                      rw [decide_eq_false fun h => by have := (hok2 q (by omega)).2 h; omega] at hcq
                      repeat (first | apply Wp.seqA | apply Wp.skipS | apply Wp.blockS | ((first | apply Wp.regS | apply Wp.condV | apply Wp.reg | apply Wp.condW | apply fin_ret); simp -implicitDefEqProofs (maxSteps := 2000000) (disch := first | exact tt_rfl rfl | omega | (simp only [go_sem] <;> omega) | fail) only [go_sem, show (q : Int) ≥ 0 by omega, hcq] <;> try with_reducible rfl) | apply Wp.block | apply Wp.exitS | apply Wp.retS | apply Wp.exit | apply Wp.ret | apply Wp.skip)
                      apply round_next (Q := fun _ _ => False)
                      · simp -implicitDefEqProofs (maxSteps := 2000000) (disch := first | exact tt_rfl rfl | omega | (simp only [go_sem] <;> omega) | fail) only [go_sem, norm_eq, Ok.some]; with_reducible rfl
                      exact ⟨by omega, q + 1, many + 1, by rw [hq]; simp, by omega, by omega, by rw [this] at hb1; omega⟩
                · have hc := hpk k (by omega) (by omega)
                  rw [decide_eq_false fun h => hon ((hok2 k (by omega)).2 h)] at hc
                  repeat (first | apply Wp.seqA | apply Wp.skipS | apply Wp.blockS | ((first | apply Wp.regS | apply Wp.condV | apply Wp.reg | apply Wp.condW | apply fin_ret); simp -implicitDefEqProofs (maxSteps := 2000000) (disch := first | exact tt_rfl rfl | omega | (simp only [go_sem] <;> omega) | fail) only [go_sem, show (k : Int) ≥ 0 by omega, show (i : Int) < 1000 by omega, hwl, gt_iff_lt, List.getElem?_map, Option.map_some, gw0, i8, h5', show ¬ (0 : Int) < tr.length by omega, show (ws.length : Int) ≠ 0 by omega, iw, iwl, giw, hc] <;> try with_reducible rfl) | apply Wp.block | apply Wp.exitS | apply Wp.retS | apply Wp.exit | apply Wp.ret | apply Wp.skip)
                  apply round_next (Q := fun _ _ => False)
                  · simp -implicitDefEqProofs (maxSteps := 2000000) (disch := first | exact tt_rfl rfl | omega | (simp only [go_sem] <;> omega) | fail) only [go_sem, norm_eq, Ok.some]; with_reducible rfl
                  exact ⟨by omega, k + 1, many, by rw [hk]; simp, by omega, by omega, hmany⟩
              · have h5' : ¬ (((i % 8 : Nat) : Nat) : Int) > 5 := by omega
                generalize i % 8 = j4 at *
                have hwm := mw0
                have hpk := hp w0 hwm
                have hok2 := fun (k : Nat) (hk : (k : Int) < r.layers) => holdW_on hr w0 k hk
                have hin := (holdW_in hr w0).1
                have hbw := hbk (holdW r w0) (List.mem_map.2 ⟨w0, hwm, rfl⟩)
                obtain ⟨lo, hlo⟩ : ∃ lo : Nat, (holdW r w0).lo = lo := ⟨(holdW r w0).lo.toNat, by omega⟩
                by_cases hon : (holdW r w0).on k
                · have hc := hpk k (by omega) (by omega)
                  rw [decide_eq_true ((hok2 k (by omega)).1 hon)] at hc
                  have hb1 := hbw hon
                  unfold HoldA.on at hok2
                  obtain ⟨o1, o2⟩ := hon
                  rw [hlo] at o1 hok2 hb1
                  rw [Int.toNat_natCast] at hb1
                  repeat (first | apply Wp.seqA | apply Wp.skipS | apply Wp.blockS | ((first | apply Wp.regS | apply Wp.condV | apply Wp.reg | apply Wp.condW | apply fin_ret); simp -implicitDefEqProofs (maxSteps := 2000000) (disch := first | exact tt_rfl rfl | omega | (simp only [go_sem] <;> omega) | fail) only [go_sem, show (k : Int) ≥ 0 by omega, show (i : Int) < 1000 by omega, hwl, gt_iff_lt, List.getElem?_map, Option.map_some, gw0, i8, h5', show ¬ (0 : Int) < tr.length by omega, hc] <;> try with_reducible rfl) | apply Wp.block | apply Wp.exitS | apply Wp.retS | apply Wp.exit | apply Wp.ret | apply Wp.skip)
                  apply Wp.loopM (fun m fr => fr = ⟨[(2, .list 1 (tr.map fun n => .int .u8 (n.1 : Int))), (3, .ptr 192 0 0), (7, .ptr 448 0 0), (8, .slice 512 0 ws.length), (10, .func 59 [.ptr 448 0 0]), (15, .slice 960 0 tw.length), (22, iv ((m : Int) - 1)), (23, iv ((many + 1 : Nat) : Int)), (24, iv i), (25, iv w0)], [(192, .box [.int .u8 v0, .int .u8 r.thick, .int .u8 v2, .int .u8 v3, .int .u8 v4, .int .u8 v5]), (448, .box [iv r.core, iv r.thick, iv r.layers, iv r.pulley, iv r.plo, iv r.phi]), (512, .arr 1 (ws.map fun n => iv n)), (960, .arr 2 (tw.map TurnA.av))], [], 10000000⟩ ∧ lo ≤ m ∧ m ≤ k + 1)
                  · simp -implicitDefEqProofs (maxSteps := 2000000) (disch := first | exact tt_rfl rfl | omega | (simp only [go_sem] <;> omega) | fail) only [go_sem, norm_eq, Ok.some]
                    exact ⟨k + 1, by rw [hk]; simp, by omega, Nat.le_refl _⟩
                  rintro m fr ⟨rfl, hm1, hm2⟩
                  match m, hm1, hm2 with
                  | 0, hm1, _ =>
                    have : lo = 0 := by omega
                    repeat (first | apply Wp.seqA | apply Wp.skipS | apply Wp.blockS | ((first | apply Wp.regS | apply Wp.condV | apply Wp.reg | apply Wp.condW | apply fin_ret); simp -implicitDefEqProofs (maxSteps := 2000000) (disch := first | exact tt_rfl rfl | omega | (simp only [go_sem] <;> omega) | fail) only [go_sem, show ¬ ((0 : Nat) : Int) - 1 ≥ 0 by omega] <;> try with_reducible rfl) | apply Wp.block | apply Wp.exitS | apply Wp.retS | apply Wp.exit | apply Wp.ret | apply Wp.skip)
                    apply round_next (Q := fun _ _ => False)
                    · simp -implicitDefEqProofs (maxSteps := 2000000) (disch := first | exact tt_rfl rfl | omega | (simp only [go_sem] <;> omega) | fail) only [go_sem, norm_eq, Ok.some]; with_reducible rfl
                    exact ⟨by omega, 0, many + 1, by simp, by omega, by omega, by rw [this] at hb1; omega⟩
                  | q + 1, hm1, hm2 =>
                    have hq : ((q + 1 : Nat) : Int) - 1 = q := by omega
                    rw [hq]
                    have hcq := hpk q (by omega) (by omega)
                    by_cases hlq : lo ≤ q
                    · rw [decide_eq_true ((hok2 q (by omega)).1 ⟨by omega, by omega⟩)] at hcq
                      repeat (first | apply Wp.seqA | apply Wp.skipS | apply Wp.blockS | ((first | apply Wp.regS | apply Wp.condV | apply Wp.reg | apply Wp.condW | apply fin_ret); simp -implicitDefEqProofs (maxSteps := 2000000) (disch := first | exact tt_rfl rfl | omega | (simp only [go_sem] <;> omega) | fail) only [go_sem, show (q : Int) ≥ 0 by omega, hcq] <;> try with_reducible rfl) | apply Wp.block | apply Wp.exitS | apply Wp.retS | apply Wp.exit | apply Wp.ret | apply Wp.skip)
                      apply round_next (Q := fun _ _ => False)
                      · simp -implicitDefEqProofs (maxSteps := 2000000) (disch := first | exact tt_rfl rfl | omega | (simp only [go_sem] <;> omega) | fail) only [go_sem, norm_eq, Ok.some]; with_reducible rfl
                      exact ⟨q, by omega, rfl, by omega, by omega⟩
                    · have : lo = q + 1 := by omega
                      rw [decide_eq_false fun h => by have := (hok2 q (by omega)).2 h; omega] at hcq
                      repeat (first | apply Wp.seqA | apply Wp.skipS | apply Wp.blockS | ((first | apply Wp.regS | apply Wp.condV | apply Wp.reg | apply Wp.condW | apply fin_ret); simp -implicitDefEqProofs (maxSteps := 2000000) (disch := first | exact tt_rfl rfl | omega | (simp only [go_sem] <;> omega) | fail) only [go_sem, show (q : Int) ≥ 0 by omega, hcq] <;> try with_reducible rfl) | apply Wp.block | apply Wp.exitS | apply Wp.retS | apply Wp.exit | apply Wp.ret | apply Wp.skip)
                      apply round_next (Q := fun _ _ => False)
                      · simp -implicitDefEqProofs (maxSteps := 2000000) (disch := first | exact tt_rfl rfl | omega | (simp only [go_sem] <;> omega) | fail) only [go_sem, norm_eq, Ok.some]; with_reducible rfl
                      exact ⟨by omega, q + 1, many + 1, by rw [hq]; simp, by omega, by omega, by rw [this] at hb1; omega⟩
                · have hc := hpk k (by omega) (by omega)
                  rw [decide_eq_false fun h => hon ((hok2 k (by omega)).2 h)] at hc
                  repeat (first | apply Wp.seqA | apply Wp.skipS | apply Wp.blockS | ((first | apply Wp.regS | apply Wp.condV | apply Wp.reg | apply Wp.condW | apply fin_ret); simp -implicitDefEqProofs (maxSteps := 2000000) (disch := first | exact tt_rfl rfl | omega | (simp only [go_sem] <;> omega) | fail) only [go_sem, show (k : Int) ≥ 0 by omega, show (i : Int) < 1000 by omega, hwl, gt_iff_lt, List.getElem?_map, Option.map_some, gw0, i8, h5', show ¬ (0 : Int) < tr.length by omega, hc] <;> try with_reducible rfl) | apply Wp.block | apply Wp.exitS | apply Wp.retS | apply Wp.exit | apply Wp.ret | apply Wp.skip)
                  apply round_next (Q := fun _ _ => False)
                  · simp -implicitDefEqProofs (maxSteps := 2000000) (disch := first | exact tt_rfl rfl | omega | (simp only [go_sem] <;> omega) | fail) only [go_sem, norm_eq, Ok.some]; with_reducible rfl
                  exact ⟨by omega, k + 1, many, by rw [hk]; simp, by omega, by omega, hmany⟩
          · have hd : ¬ (n : Int) - 1 ≥ 0 ∨ (n : Int) - 1 ≥ 0 ∧ ¬ (i : Int) < 1000 := by omega
            have hd2 : n = 0 ∧ tw.length ≤ many ∨ ¬ (n : Int) - 1 < 0 := by
              rcases Nat.eq_zero_or_pos n with h | h
              · rw [h, turnsW_zero] at hmany
                exact .inl ⟨h, by simpa using hmany⟩
              · exact .inr (by omega)
            repeat (first | apply Wp.seqA | apply Wp.skipS | apply Wp.blockS | ((first | apply Wp.regS | apply Wp.condV | apply Wp.reg | apply Wp.condW | apply fin_ret); simp -implicitDefEqProofs (maxSteps := 2000000) (disch := first | exact tt_rfl rfl | omega | (simp only [go_sem] <;> omega) | fail) only [go_sem, gt_iff_lt] <;> try with_reducible rfl) | apply Wp.block | apply Wp.exitS | apply Wp.retS | apply Wp.exit | apply Wp.ret | apply Wp.skip)
            · refine (?_ : _ = some (⟨[(2, .list 1 (tr.map fun n => .int .u8 (n.1 : Int))), (3, .ptr 192 0 0), (7, .ptr 448 0 0), (8, .slice 512 0 ws.length), (10, .func 59 [.ptr 448 0 0]), (15, .slice 960 0 tw.length), (22, iv ((n : Int) - 1)), (23, iv many), (24, iv i), (259, .bool false)], [(192, .box [.int .u8 v0, .int .u8 r.thick, .int .u8 v2, .int .u8 v3, .int .u8 v4, .int .u8 v5]), (448, .box [iv r.core, iv r.thick, iv r.layers, iv r.pulley, iv r.plo, iv r.phi]), (512, .arr 1 (ws.map fun n => iv n)), (960, .arr 2 (tw.map TurnA.av))], [], 10000192⟩ : Fr))
              rcases hd with h | ⟨h, h'⟩
              · simp -implicitDefEqProofs (maxSteps := 2000000) (disch := first | exact tt_rfl rfl | omega | (simp only [go_sem] <;> omega) | fail) only [go_sem, h]
              · simp -implicitDefEqProofs (maxSteps := 2000000) (disch := first | exact tt_rfl rfl | omega | (simp only [go_sem] <;> omega) | fail) only [go_sem, h, h']
            repeat (first | apply Wp.seqA | apply Wp.skipS | apply Wp.blockS | ((first | apply Wp.regS | apply Wp.condV | apply Wp.reg | apply Wp.condW | apply fin_ret); simp -implicitDefEqProofs (maxSteps := 2000000) (disch := first | exact tt_rfl rfl | omega | (simp only [go_sem] <;> omega) | fail) only [go_sem] <;> try with_reducible rfl) | apply Wp.block | apply Wp.exitS | apply Wp.retS | apply Wp.exit | apply Wp.ret | apply Wp.skip)
            · refine (?_ : _ = some (⟨[(3, .ptr 192 0 0), (7, .ptr 448 0 0), (8, .slice 512 0 ws.length), (15, .slice 960 0 tw.length), (316, .bool false)], [(192, .box [.int .u8 v0, .int .u8 r.thick, .int .u8 v2, .int .u8 v3, .int .u8 v4, .int .u8 v5]), (448, .box [iv r.core, iv r.thick, iv r.layers, iv r.pulley, iv r.plo, iv r.phi]), (512, .arr 1 (ws.map fun n => iv n)), (960, .arr 2 (tw.map TurnA.av))], [], 10000448⟩ : Fr))
              rcases hd2 with ⟨rfl, h'⟩ | h
              · simp -implicitDefEqProofs (maxSteps := 2000000) (disch := first | exact tt_rfl rfl | omega | (simp only [go_sem] <;> omega) | fail) only [go_sem, show ((0 : Nat) : Int) - 1 < 0 by omega, show ¬ (many : Int) < tw.length by omega, htl]
              · simp -implicitDefEqProofs (maxSteps := 2000000) (disch := first | exact tt_rfl rfl | omega | (simp only [go_sem] <;> omega) | fail) only [go_sem, h]
            have etm : ((ws.map fun n => iv n) ++ [iv (1 + v0)]).take (ws.length + 1) = (ws.map fun n => iv n) ++ [iv (1 + v0)] := List.take_of_length_le (by simp)
            repeat (first | apply Wp.seqA | apply Wp.skipS | apply Wp.blockS | ((first | apply Wp.regS | apply Wp.condV | apply Wp.reg | apply Wp.condW | apply fin_ret); simp -implicitDefEqProofs (maxSteps := 2000000) (disch := first | exact tt_rfl rfl | omega | (simp only [go_sem] <;> omega) | fail) only [go_sem, etk, etm, hwl, cI, cM, htl, html, kn, show (tm.length : Int) ≤ tw.length by omega] <;> try with_reducible rfl) | apply Wp.block | apply Wp.exitS | apply Wp.retS | apply Wp.exit | apply Wp.ret | apply Wp.skip)

theorem arr6 {α : Type} (x : Arr α 6) : ∃ a b c d e f, x.1 = [a, b, c, d, e, f] := by
  obtain ⟨l, h⟩ := x
  match l, h with
  | [a, b, c, d, e, f], _ => exact ⟨a, b, c, d, e, f, rfl⟩
theorem beamHeld_ok (v : Arr (Fin 256) 6) (by' tr : List (Fin 256)) : lim F 12 [.agg (v.1.flatMap fun n => [.int .u8 (n.1 : Int)]), .list 1 (by'.map fun n => .int .u8 (n.1 : Int)), .list 1 (tr.map fun n => .int .u8 (n.1 : Int))] = some (.bool true, []) := by
  obtain ⟨a, b, c, d, e, f, ev⟩ := arr6 v
  rw [ev]
  simp only [List.flatMap_cons, List.flatMap_nil, List.append_nil, List.cons_append, List.nil_append]
  have ha := a.2
  have hb := b.2
  have hc := c.2
  have hd := d.2
  have he := e.2
  have hf := f.2
  refine held_main ⟨1000 + 40 * a.1, b.1, 1 + c.1, 1000 + 100 * d.1, 10 + e.1, 10 + e.1 + f.1⟩ ?_ ?_ a.1 b.1 c.1 d.1 e.1 f.1 by' tr ?_ ?_ ?_ ?_ ?_ ?_ rfl rfl rfl rfl rfl rfl
  · refine ⟨⟨?_, ?_⟩, ⟨?_, ?_⟩, ⟨?_, ?_⟩, ⟨?_, ?_⟩, ?_, ?_, ?_⟩
    all_goals simp only; omega
  · simp only; omega
  all_goals omega
end Go.Abs
