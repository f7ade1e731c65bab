/-
  Chapter 6: the fewest turns, layer by layer. No condition beyond those that each theorem names.
-/
import Derived.Test.YtbmihapnaclidaaR4
set_option linter.all false
namespace Go.Abs
set_option maxRecDepth 10000
set_option maxHeartbeats 4000000

def fewF (hs : List HoldA) (n : Nat) : Int := (turnsW hs n).length
/-- what the reference keeps of a weight behind a layer -/
def hangV (r : RollA) (hs : List HoldA) (k : Nat) (w : Int) : Int := if (holdW r w).on k then fewF hs (holdW r w).lo.toNat else 1073741824
def hangL (r : RollA) (hs : List HoldA) (ws : List Int) : Nat → List Int
  | 0 => List.replicate ws.length 0
  | k + 1 => ws.map (hangV r hs k)
theorem hangL_len (r : RollA) (hs : List HoldA) (ws : List Int) (k : Nat) : (hangL r hs ws k).length = ws.length := by cases k <;> simp [hangL]
/-- the fewest turns up to a layer, of some weights -/
def bestF (r : RollA) (hs : List HoldA) (k : Nat) (ws : List Int) : Int := ws.foldl (fun b w => if (holdW r w).on k then min b (fewF hs (holdW r w).lo.toNat + 1) else b) 1073741824
theorem bestF_snoc (r : RollA) (hs : List HoldA) (k : Nat) (ws : List Int) (w : Int) : bestF r hs k (ws ++ [w]) = if (holdW r w).on k then min (bestF r hs k ws) (fewF hs (holdW r w).lo.toNat + 1) else bestF r hs k ws := by
  unfold bestF; rw [List.foldl_append]; rfl
theorem bestF_ge (r : RollA) (hs : List HoldA) (k : Nat) (B : Int) (hB : B ≤ 1073741824) : ∀ vs : List Int, (∀ w ∈ vs, (holdW r w).on k → B ≤ fewF hs (holdW r w).lo.toNat + 1) → B ≤ bestF r hs k vs.reverse := by
  intro vs
  induction vs with
  | nil => intro _; simpa [bestF] using hB
  | cons w vs ih =>
    intro h
    have h1 := ih fun w hw => h w (List.mem_cons_of_mem _ hw)
    have h2 := h w (List.mem_cons_self ..)
    rw [List.reverse_cons, bestF_snoc]
    split
    · rename_i hon
      have := h2 hon
      omega
    · exact h1
theorem bestF_le (r : RollA) (hs : List HoldA) (k : Nat) : ∀ vs : List Int, ∀ w ∈ vs, (holdW r w).on k → bestF r hs k vs.reverse ≤ fewF hs (holdW r w).lo.toNat + 1 := by
  intro vs
  induction vs with
  | nil => intro w hw; cases hw
  | cons v vs ih =>
    intro w hw hon
    rw [List.reverse_cons, bestF_snoc]
    rcases List.mem_cons.1 hw with rfl | hw
    · rw [if_pos hon]; omega
    · have := ih w hw hon
      split <;> omega
theorem bestF_eq {r : RollA} {ws : List Int} (hp : Pos (holdsOf r ws)) {N k : Nat} (hc : Cover (holdsOf r ws) N) (hk : k < N) (hN : N ≤ 2000) : bestF r (holdsOf r ws) k ws = fewF (holdsOf r ws) (k + 1) := by
  obtain ⟨h1, h, hm, hon, he⟩ := turns_best hc hp hk
  have hl := turnsW_len (holdsOf r ws) (k + 1)
  obtain ⟨w, hw, rfl⟩ := List.mem_map.1 hm
  have g1 := bestF_ge r (holdsOf r ws) k (fewF (holdsOf r ws) (k + 1)) (by unfold fewF; omega) ws.reverse fun v hv hvon => by
    have := h1 (holdW r v) (List.mem_map.2 ⟨v, List.mem_reverse.1 hv, rfl⟩) hvon
    unfold fewF; omega
  have g2 := bestF_le r (holdsOf r ws) k ws.reverse w (List.mem_reverse.2 hw) hon
  rw [List.reverse_reverse] at g1 g2
  unfold fewF at *
  omega
/-- what a weight that hangs on a layer comes to -/
theorem hang_step {r : RollA} (hr : r.Ok) {ws : List Int} (hp : Pos (holdsOf r ws)) {N k : Nat} (hc : Cover (holdsOf r ws) N) (hk : k < N) (i : Nat) (hi : i < ws.length) (hon : (holdW r ws[i]).on k) (hN : N ≤ 2000) :
    ∃ o, (hangL r (holdsOf r ws) ws k)[i]? = some o ∧ (0 ≤ o ∧ o ≤ 1073741824) ∧ min o (fewF (holdsOf r ws) k) = fewF (holdsOf r ws) (holdW r ws[i]).lo.toNat ∧ (k = 0 → fewF (holdsOf r ws) (holdW r ws[i]).lo.toNat = 0) := by
  have hin := (holdW_in hr ws[i]).1
  have hm := turns_mono hc hp k (by omega) (holdW r ws[i]).lo.toNat (by have := hon.1; omega)
  have h0 : fewF (holdsOf r ws) 0 = 0 := by unfold fewF; rw [turnsW_zero]; rfl
  match k, hk, hon, hm with
  | 0, _, hon, hm =>
    have e : (holdW r ws[i]).lo.toNat = 0 := by have := hon.1; omega
    refine ⟨0, by simp [hangL, hi], by omega, ?_, fun _ => by rw [e]; exact h0⟩
    rw [e, h0]; rfl
  | k + 1, hk, hon, hm =>
    refine ⟨hangV r (holdsOf r ws) k ws[i], by simp [hangL, hi], ?_, ?_, fun h => by omega⟩
    · have hl := turnsW_len (holdsOf r ws) (holdW r ws[i]).lo.toNat
      unfold hangV fewF
      split <;> omega
    · unfold hangV
      by_cases hon' : (holdW r ws[i]).on k
      · rw [if_pos hon']
        unfold fewF
        omega
      · rw [if_neg hon']
        have e : (holdW r ws[i]).lo.toNat = k + 1 := by
          unfold HoldA.on at hon hon'
          omega
        rw [e]
        have hl := turnsW_len (holdsOf r ws) (k + 1)
        unfold fewF
        omega

theorem set_mid (f : Int → Int) (ws hg : List Int) (i : Nat) (hi : i < ws.length) (hl : hg.length = ws.length) (v : Int) (hv : v = f ws[i]) : ((ws.take i).map f ++ hg.drop i).set i v = (ws.take (i + 1)).map f ++ hg.drop (i + 1) := by
  have e1 : hg.drop i = hg[i] :: hg.drop (i + 1) := List.drop_eq_getElem_cons (by omega)
  have e2 : ((ws.take i).map f).length = i := by simp; omega
  rw [e1, List.set_append_right _ _ (by omega), e2, Nat.sub_self, List.set_cons_zero, List.take_succ_eq_append_getElem hi, List.map_append, hv]
  simp

theorem refFewest_ok (r : RollA) (ws : List Int) (h : r.Ok) (hw : ∀ w ∈ ws, WeiOk w) (hlen : ws.length ≤ 20) (hc : Cover (holdsOf r ws) r.layers.toNat) : lim F 48 [r.av, .list 1 (ws.map fun n => iv n)] = some (iv (fewF (holdsOf r ws) r.layers.toNat), []) := by
  have hl := h.2.2.1
  have hp := fun (w : Int) (hm : w ∈ ws) (k : Nat) (hk : (k : Int) < r.layers) => refPulls_ok r w k ⟨h, (hw w hm).1, (hw w hm).2, by omega, by omega⟩
  have ho := fun (w : Int) (k : Nat) (hk : (k : Int) < r.layers) => holdW_on h w k hk
  have hpos := holds_pos h ws
  have hstep := fun k (hk : k < r.layers.toNat) i (hi : i < ws.length) hon => hang_step h hpos hc hk i hi hon (by omega)
  have hbest := fun k (hk : k < r.layers.toNat) => bestF_eq hpos hc hk (by omega)
  have hfl := turnsW_len (holdsOf r ws)
  have h00 : fewF (holdsOf r ws) 0 = 0 := by unfold fewF; rw [turnsW_zero]; rfl
  have hfl' : ∀ n, 0 ≤ fewF (holdsOf r ws) n ∧ fewF (holdsOf r ws) n ≤ n := fun n => by have := hfl n; unfold fewF; omega
  have hgl := hangL_len r (holdsOf r ws) ws
  unfold RollA.av RollA.cells at *
  refine lim_by (fn := a48) (k := 2) (res := [.tmp 4]) rfl rfl rfl (by simp -implicitDefEqProofs (maxSteps := 2000000) (disch := first | exact tt_rfl rfl | omega | (simp only [go_sem] <;> omega) | fail) only [go_sem]) ?_
  simp -implicitDefEqProofs (maxSteps := 2000000) (disch := first | exact tt_rfl rfl | omega | (simp only [go_sem] <;> omega) | fail) only [go_sem]
  repeat (first | apply Wp.seqA | apply Wp.skipS | apply Wp.blockS | ((first | apply Wp.regS | apply Wp.condV | apply Wp.reg | apply Wp.condW | apply fin_ret); simp -implicitDefEqProofs (maxSteps := 2000000) (disch := first | exact tt_rfl rfl | omega | (simp only [go_sem] <;> omega) | fail) only [go_sem] <;> try with_reducible rfl) | apply Wp.block | apply Wp.exitS | apply Wp.retS | apply Wp.exit | apply Wp.ret | apply Wp.skip)
  apply Wp.loopF r.layers.toNat (fun k => ⟨[(1, .list 1 (ws.map fun n => iv n)), (2, .ptr 128 0 0), (5, iv (fewF (holdsOf r ws) k)), (6, .slice 384 0 ws.length), (7, iv k)], [(128, .box [iv r.core, iv r.thick, iv r.layers, iv r.pulley, iv r.plo, iv r.phi]), (384, .arr 1 ((hangL r (holdsOf r ws) ws k).map fun n => iv n))], [], 10000000⟩) (fun _ => True)
  · simp -implicitDefEqProofs (maxSteps := 2000000) (disch := first | exact tt_rfl rfl | omega | (simp only [go_sem] <;> omega) | fail) only [go_sem, norm_eq, Ok.some]
    simp [hangL, h00]
  · trivial
  intro k hk _
  by_cases hlt : k < r.layers.toNat
  · repeat (first | apply Wp.seqA | apply Wp.skipS | apply Wp.blockS | ((first | apply Wp.regS | apply Wp.condV | apply Wp.reg | apply Wp.condW | apply fin_ret); simp -implicitDefEqProofs (maxSteps := 2000000) (disch := first | exact tt_rfl rfl | omega | (simp only [go_sem] <;> omega) | fail) only [go_sem, show (k : Int) < r.layers by omega] <;> try with_reducible rfl) | apply Wp.block | apply Wp.exitS | apply Wp.retS | apply Wp.exit | apply Wp.ret | apply Wp.skip)
    apply Wp.loopF ws.length (fun i => ⟨[(1, .list 1 (ws.map fun n => iv n)), (2, .ptr 128 0 0), (5, iv (fewF (holdsOf r ws) k)), (6, .slice 384 0 ws.length), (7, iv k), (8, iv (bestF r (holdsOf r ws) k (ws.take i))), (9, iv i)], [(128, .box [iv r.core, iv r.thick, iv r.layers, iv r.pulley, iv r.plo, iv r.phi]), (384, .arr 1 (((ws.take i).map (hangV r (holdsOf r ws) k) ++ (hangL r (holdsOf r ws) ws k).drop i).map fun n => iv n))], [], 10000000⟩) (fun _ => True)
    · simp -implicitDefEqProofs (maxSteps := 2000000) (disch := first | exact tt_rfl rfl | omega | (simp only [go_sem] <;> omega) | fail) only [go_sem, norm_eq, Ok.some]
      simp [bestF]
    · trivial
    intro i hi _
    by_cases hil : i < ws.length
    · have h1 := hp ws[i] (List.getElem_mem hil) k (by omega)
      have h2 := ho ws[i] k (by omega)
      have eb := bestF_snoc r (holdsOf r ws) k (ws.take i) ws[i]
      rw [← List.take_succ_eq_append_getElem hil] at eb
      have es := set_mid (hangV r (holdsOf r ws) k) ws (hangL r (holdsOf r ws) ws k) i hil (hgl k) _ rfl
      have hxl : (((ws.take i).map (hangV r (holdsOf r ws) k) ++ (hangL r (holdsOf r ws) ws k).drop i).map fun n => iv n).length = ws.length := by
        simp [hgl k]; omega
      have hat : ((ws.take i).map (hangV r (holdsOf r ws) k) ++ (hangL r (holdsOf r ws) ws k).drop i)[i]? = (hangL r (holdsOf r ws) ws k)[i]? := by
        rw [List.getElem?_append_right (by simp; omega), List.getElem?_drop]
        congr 1
        simp; omega
      by_cases hon : (holdW r ws[i]).on k
      · rw [decide_eq_true (h2.1 hon)] at h1
        obtain ⟨o, ho1, ho2, ho3, ho4⟩ := hstep k hlt i hil hon
        rw [if_pos hon] at eb
        have hv : hangV r (holdsOf r ws) k ws[i] = fewF (holdsOf r ws) (holdW r ws[i]).lo.toNat := by unfold hangV; rw [if_pos hon]
        rw [hv] at es
        have hf1 := hfl' k
        have hf2 := hfl' (holdW r ws[i]).lo.toNat
        rw [ho1] at hat
        generalize fewF (holdsOf r ws) (holdW r ws[i]).lo.toNat = fl at *
        generalize fewF (holdsOf r ws) k = fk at *
        generalize (ws.take i).map (hangV r (holdsOf r ws) k) ++ (hangL r (holdsOf r ws) ws k).drop i = xs at *
        have hx1 : (xs.map fun n => iv n)[i]? = some (iv o) := by rw [List.getElem?_map, hat]; rfl
        generalize bestF r (holdsOf r ws) k (ws.take i) = bb at *
        have hsm : (xs.map fun n => iv n).set i (iv fl) = (xs.set i fl).map fun n => iv n := by rw [List.map_set]
        have hsi : ((xs.map fun n => iv n).set i (iv fl))[i]? = some (iv fl) := by rw [List.getElem?_set_self (by omega)]
        have hss : ((xs.map fun n => iv n).set i (iv fl)).set i (iv fl) = (xs.map fun n => iv n).set i (iv fl) := List.set_set ..
        by_cases hk0 : k = 0
        · have := ho4 hk0
          subst this
          repeat (first | apply Wp.seqA | apply Wp.skipS | apply Wp.blockS | ((first | apply Wp.regS | apply Wp.condV | apply Wp.reg | apply Wp.condW | apply fin_ret); simp -implicitDefEqProofs (maxSteps := 2000000) (disch := first | exact tt_rfl rfl | omega | (simp only [go_sem] <;> omega) | fail) only [go_sem, hil, Int.ofNat_lt, List.getElem?_map, List.getElem?_eq_getElem hil, Option.map_some, h1, hxl, hx1, ho3, hsi, hss, eq_true (show (k : Int) = 0 by omega)] <;> try with_reducible rfl) | apply Wp.block | apply Wp.exitS | apply Wp.retS | apply Wp.exit | apply Wp.ret | apply Wp.skip)
          apply round_next
          · simp -implicitDefEqProofs (maxSteps := 2000000) (disch := first | exact tt_rfl rfl | omega | (simp only [go_sem] <;> omega) | fail) only [go_sem, norm_eq, Ok.some]; with_reducible rfl
          exact ⟨hil, by rw [eb, ← es, ← hsm]; simp, trivial⟩
        · repeat (first | apply Wp.seqA | apply Wp.skipS | apply Wp.blockS | ((first | apply Wp.regS | apply Wp.condV | apply Wp.reg | apply Wp.condW | apply fin_ret); simp -implicitDefEqProofs (maxSteps := 2000000) (disch := first | exact tt_rfl rfl | omega | (simp only [go_sem] <;> omega) | fail) only [go_sem, hil, Int.ofNat_lt, List.getElem?_map, List.getElem?_eq_getElem hil, Option.map_some, h1, hxl, hx1, ho3, hsi, show ¬ (k : Int) = 0 by omega] <;> try with_reducible rfl) | apply Wp.block | apply Wp.exitS | apply Wp.retS | apply Wp.exit | apply Wp.ret | apply Wp.skip)
          apply round_next
          · simp -implicitDefEqProofs (maxSteps := 2000000) (disch := first | exact tt_rfl rfl | omega | (simp only [go_sem] <;> omega) | fail) only [go_sem, norm_eq, Ok.some]; with_reducible rfl
          exact ⟨hil, by rw [eb, ← es, ← hsm]; simp, trivial⟩
      · rw [decide_eq_false fun hh => hon (h2.2 hh)] at h1
        rw [if_neg hon] at eb
        have hv : hangV r (holdsOf r ws) k ws[i] = 1073741824 := by unfold hangV; rw [if_neg hon]
        rw [hv] at es
        generalize (ws.take i).map (hangV r (holdsOf r ws) k) ++ (hangL r (holdsOf r ws) ws k).drop i = xs at *
        have hx1 : ∃ o, (xs.map fun n => iv n)[i]? = some (iv o) := by
          rw [List.getElem?_map, hat, List.getElem?_eq_getElem (by rw [hgl]; exact hil)]
          exact ⟨_, rfl⟩
        obtain ⟨o, hx1⟩ := hx1
        have hsm : (xs.map fun n => iv n).set i (iv 1073741824) = (xs.set i 1073741824).map fun n => iv n := by rw [List.map_set]
        generalize bestF r (holdsOf r ws) k (ws.take i) = bb at *
        repeat (first | apply Wp.seqA | apply Wp.skipS | apply Wp.blockS | ((first | apply Wp.regS | apply Wp.condV | apply Wp.reg | apply Wp.condW | apply fin_ret); simp -implicitDefEqProofs (maxSteps := 2000000) (disch := first | exact tt_rfl rfl | omega | (simp only [go_sem] <;> omega) | fail) only [go_sem, hil, Int.ofNat_lt, List.getElem?_map, List.getElem?_eq_getElem hil, Option.map_some, h1, hxl, hx1] <;> try with_reducible rfl) | apply Wp.block | apply Wp.exitS | apply Wp.retS | apply Wp.exit | apply Wp.ret | apply Wp.skip)
        apply round_next
        · simp -implicitDefEqProofs (maxSteps := 2000000) (disch := first | exact tt_rfl rfl | omega | (simp only [go_sem] <;> omega) | fail) only [go_sem, norm_eq, Ok.some]; with_reducible rfl
        exact ⟨hil, by rw [eb, ← es, ← hsm]; simp, trivial⟩
    · obtain rfl : i = ws.length := by omega
      rw [List.take_length, hbest k hlt]
      repeat (first | apply Wp.seqA | apply Wp.skipS | apply Wp.blockS | ((first | apply Wp.regS | apply Wp.condV | apply Wp.reg | apply Wp.condW | apply fin_ret); simp -implicitDefEqProofs (maxSteps := 2000000) (disch := first | exact tt_rfl rfl | omega | (simp only [go_sem] <;> omega) | fail) only [go_sem, Int.lt_irrefl] <;> try with_reducible rfl) | apply Wp.block | apply Wp.exitS | apply Wp.retS | apply Wp.exit | apply Wp.ret | apply Wp.skip)
      apply round_next
      · simp -implicitDefEqProofs (maxSteps := 2000000) (disch := first | exact tt_rfl rfl | omega | (simp only [go_sem] <;> omega) | fail) only [go_sem, norm_eq, Ok.some]; with_reducible rfl
      refine ⟨hlt, ?_, trivial⟩
      rw [List.drop_eq_nil_of_le (by rw [hgl]; omega), List.append_nil]
      rfl
  · obtain rfl : k = r.layers.toNat := by omega
    repeat (first | apply Wp.seqA | apply Wp.skipS | apply Wp.blockS | ((first | apply Wp.regS | apply Wp.condV | apply Wp.reg | apply Wp.condW | apply fin_ret); simp -implicitDefEqProofs (maxSteps := 2000000) (disch := first | exact tt_rfl rfl | omega | (simp only [go_sem] <;> omega) | fail) only [go_sem, show ¬ ((r.layers.toNat : Nat) : Int) < r.layers by omega] <;> try with_reducible rfl) | apply Wp.block | apply Wp.exitS | apply Wp.retS | apply Wp.exit | apply Wp.ret | apply Wp.skip)
end Go.Abs
