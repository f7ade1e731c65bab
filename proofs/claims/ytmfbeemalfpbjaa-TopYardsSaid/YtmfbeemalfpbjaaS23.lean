/-
  Chapter 7, cutting: the contract of the program's start.
-/
import Derived.Test.YtmfbeemalfpbjaaS22
set_option linter.all false
namespace Go.Abs
set_option maxRecDepth 10000
set_option maxHeartbeats 1000000

/-- a bad pick in a length, or none -/
def InBad (bad : List Int) (at' p : Int) (n : Nat) (la : Int) : Prop :=
  (la = -1 ∧ ∀ j (h : j < bad.length), j < n → ¬ (at' ≤ bad[j] ∧ bad[j] < at' + p)) ∨ (la ∈ bad ∧ at' ≤ la ∧ la < at' + p)

theorem start_ok (r : Int) (bad : List Int) (l : List Cut) (c : Cut) (f : Int) (hr : 1 ≤ r ∧ r ≤ 100) (hl : bad.length ≤ 1000) (hbad : ∀ b ∈ bad, 0 ≤ b ∧ b ≤ 100000) (hp : 1 ≤ c.p ∧ c.p ≤ 200) (hc : 0 ≤ c.b ∧ c.b ≤ r - 1) (hf : 0 ≤ f ∧ f ≤ 10000000) :
    lim F 60 [tailorV r bad l, iv f, .agg [iv c.b, iv c.p]] = some (iv (startF r bad c f), []) := by
  obtain ⟨hs, hs2⟩ := start_spec hr hbad hc hf.1
  generalize startF r bad c f = s at *
  unfold tailorV
  have hr0 : ¬ r = 0 := by omega
  refine lim_by (fn := a60) (k := 3) (res := [.tmp 6]) rfl rfl rfl (by simp -implicitDefEqProofs (maxSteps := 2000000) (disch := first | exact tt_rfl rfl | omega | (simp only [go_sem] <;> omega) | fail) only [go_sem]) ?_
  simp -implicitDefEqProofs (maxSteps := 2000000) (disch := first | exact tt_rfl rfl | omega | (simp only [go_sem] <;> omega) | fail) only [go_sem]
  repeat (first | apply Wp.seqA | apply Wp.skipS | apply Wp.blockS | ((first | apply Wp.regS | apply Wp.condV | apply Wp.reg | apply Wp.condW | apply fin_ret); simp -implicitDefEqProofs (maxSteps := 2000000) (disch := first | exact tt_rfl rfl | omega | (simp only [go_sem] <;> omega) | fail) only [go_sem] <;> try with_reducible rfl) | apply Wp.block | apply Wp.exitS | apply Wp.retS | apply Wp.exit | apply Wp.ret | apply Wp.skip)
  apply Wp.loopM (fun k fr => ∃ x, fr = ⟨[(3, .ptr 192 0 0), (5, .ptr 320 0 0), (7, iv x)], [(192, .box [iv r, .list 1 (bad.map fun n => iv n), .list 2 (l.map Cut.av)]), (320, .box [iv c.b, iv c.p])], [], 10000000⟩ ∧
    k = (100002 - x).toNat ∧ f ≤ x ∧ x ≤ 10000001 ∧ ∀ y, f ≤ y → y < x → ¬ OkAt r bad c y)
  · simp -implicitDefEqProofs (maxSteps := 2000000) (disch := first | exact tt_rfl rfl | omega | (simp only [go_sem] <;> omega) | fail) only [go_sem, norm_eq, Ok.some]
    exact ⟨_, f, rfl, rfl, Int.le_refl _, by omega, fun y h1 h2 => by omega⟩
  rintro k fr ⟨x, rfl, rfl, hfx, hx2, hno⟩
  obtain ⟨n1, n2, n3, n4⟩ := next_rem (r := r) (b := c.b) (x := x) (by omega) (by omega)
  have hx0 := Int.emod_nonneg x (by omega : r ≠ 0)
  have hx1 := Int.emod_lt_of_pos x (by omega : 0 < r)
  have t1 := tmod_of (a := x) (b := r) (by omega)
  have t2 := tmod_of (a := c.b + r - x % r) (b := r) (by omega)
  have hno2 : ∀ y, f ≤ y → y < x + (c.b + r - x % r) % r → ¬ OkAt r bad c y := by
    intro y h1 h2 h3
    by_cases q : y < x
    · exact hno y h1 q h3
    · exact n4 y (by omega) h2 h3.1
  generalize hat : x + (c.b + r - x % r) % r = at' at *
  clear n4 hno
  repeat (first | apply Wp.seqA | apply Wp.skipS | apply Wp.blockS | ((first | apply Wp.regS | apply Wp.condV | apply Wp.reg | apply Wp.condW | apply fin_ret); simp -implicitDefEqProofs (maxSteps := 2000000) (disch := first | exact tt_rfl rfl | omega | (simp only [go_sem] <;> omega) | fail) only [go_sem, t1, t2, hat, hr0] <;> try with_reducible rfl) | apply Wp.block | apply Wp.exitS | apply Wp.retS | apply Wp.exit | apply Wp.ret | apply Wp.skip)
  apply Wp.loopN bad.length (fun i fr => ∃ la, fr = ⟨[(3, .ptr 192 0 0), (5, .ptr 320 0 0), (7, iv at'), (8, iv la), (30, .list 1 (bad.map fun n => iv n)), (31, iv bad.length), (32, iv i)],
    [(192, .box [iv r, .list 1 (bad.map fun n => iv n), .list 2 (l.map Cut.av)]), (320, .box [iv c.b, iv c.p])], [], 10000000⟩ ∧ InBad bad at' c.p i la)
  · simp -implicitDefEqProofs (maxSteps := 2000000) (disch := first | exact tt_rfl rfl | omega | (simp only [go_sem] <;> omega) | fail) only [go_sem, norm_eq, Ok.some]
    exact ⟨-1, rfl, .inl ⟨rfl, fun j _ hj => by omega⟩⟩
  rintro i fr hi ⟨la, rfl, hla⟩
  by_cases h : i < bad.length
  · have hb := hbad _ (List.getElem_mem h)
    by_cases q1 : at' ≤ bad[i]
    · by_cases q2 : bad[i] < at' + c.p
      · clear hs hno2 hbad
        repeat (first | apply Wp.seqA | apply Wp.skipS | apply Wp.blockS | ((first | apply Wp.regS | apply Wp.condV | apply Wp.reg | apply Wp.condW | apply fin_ret); simp -implicitDefEqProofs (maxSteps := 2000000) (disch := first | exact tt_rfl rfl | omega | (simp only [go_sem] <;> omega) | fail) only [go_sem, h, Int.ofNat_lt, List.getElem?_map, List.getElem?_eq_getElem h, Option.map_some, q1, q2] <;> try with_reducible rfl) | apply Wp.block | apply Wp.exitS | apply Wp.retS | apply Wp.exit | apply Wp.ret | apply Wp.skip)
        apply round_next
        · simp -implicitDefEqProofs (maxSteps := 2000000) (disch := first | exact tt_rfl rfl | omega | (simp only [go_sem] <;> omega) | fail) only [go_sem, norm_eq, Ok.some]; with_reducible rfl
        exact ⟨h, bad[i], by simp, .inr ⟨List.getElem_mem h, q1, q2⟩⟩
      · clear hs hno2 hbad
        repeat (first | apply Wp.seqA | apply Wp.skipS | apply Wp.blockS | ((first | apply Wp.regS | apply Wp.condV | apply Wp.reg | apply Wp.condW | apply fin_ret); simp -implicitDefEqProofs (maxSteps := 2000000) (disch := first | exact tt_rfl rfl | omega | (simp only [go_sem] <;> omega) | fail) only [go_sem, h, Int.ofNat_lt, List.getElem?_map, List.getElem?_eq_getElem h, Option.map_some, q1, q2] <;> try with_reducible rfl) | apply Wp.block | apply Wp.exitS | apply Wp.retS | apply Wp.exit | apply Wp.ret | apply Wp.skip)
        apply round_next
        · simp -implicitDefEqProofs (maxSteps := 2000000) (disch := first | exact tt_rfl rfl | omega | (simp only [go_sem] <;> omega) | fail) only [go_sem, norm_eq, Ok.some]; with_reducible rfl
        refine ⟨h, la, by simp, ?_⟩
        rcases hla with ⟨h1, h2⟩ | h1
        · refine .inl ⟨h1, fun j hj hji => ?_⟩
          by_cases e : j = i
          · subst e; omega
          · exact h2 j hj (by omega)
        · exact .inr h1
    · clear hs hno2 hbad
      repeat (first | apply Wp.seqA | apply Wp.skipS | apply Wp.blockS | ((first | apply Wp.regS | apply Wp.condV | apply Wp.reg | apply Wp.condW | apply fin_ret); simp -implicitDefEqProofs (maxSteps := 2000000) (disch := first | exact tt_rfl rfl | omega | (simp only [go_sem] <;> omega) | fail) only [go_sem, h, Int.ofNat_lt, List.getElem?_map, List.getElem?_eq_getElem h, Option.map_some, q1] <;> try with_reducible rfl) | apply Wp.block | apply Wp.exitS | apply Wp.retS | apply Wp.exit | apply Wp.ret | apply Wp.skip)
      apply round_next
      · simp -implicitDefEqProofs (maxSteps := 2000000) (disch := first | exact tt_rfl rfl | omega | (simp only [go_sem] <;> omega) | fail) only [go_sem, norm_eq, Ok.some]; with_reducible rfl
      refine ⟨h, la, by simp, ?_⟩
      rcases hla with ⟨h1, h2⟩ | h1
      · refine .inl ⟨h1, fun j hj hji => ?_⟩
        by_cases e : j = i
        · subst e; omega
        · exact h2 j hj (by omega)
      · exact .inr h1
  · obtain rfl : i = bad.length := by omega
    rcases hla with ⟨rfl, h2⟩ | ⟨h1, h2, h3⟩
    · have hok : OkAt r bad c at' := ⟨n1, fun b hb q => by
        obtain ⟨j, hj, rfl⟩ := List.getElem_of_mem hb
        exact h2 j hj hj (by omega)⟩
      have e : s = at' := hs.uniq ⟨by omega, hok, hno2⟩
      rw [e]
      clear hs hno2 hbad
      repeat (first | apply Wp.seqA | apply Wp.skipS | apply Wp.blockS | ((first | apply Wp.regS | apply Wp.condV | apply Wp.reg | apply Wp.condW | apply fin_ret); simp -implicitDefEqProofs (maxSteps := 2000000) (disch := first | exact tt_rfl rfl | omega | (simp only [go_sem] <;> omega) | fail) only [go_sem, Int.lt_irrefl] <;> try with_reducible rfl) | apply Wp.block | apply Wp.exitS | apply Wp.retS | apply Wp.exit | apply Wp.ret | apply Wp.skip)
    · have hb := hbad la h1
      have hno3 : ∀ y, f ≤ y → y < la + 1 → ¬ OkAt r bad c y := by
        intro y k1 k2 k3
        by_cases q : y < at'
        · exact hno2 y k1 q k3
        · exact k3.2 la h1 (by omega)
      clear hs hno2 hbad
      repeat (first | apply Wp.seqA | apply Wp.skipS | apply Wp.blockS | ((first | apply Wp.regS | apply Wp.condV | apply Wp.reg | apply Wp.condW | apply fin_ret); simp -implicitDefEqProofs (maxSteps := 2000000) (disch := first | exact tt_rfl rfl | omega | (simp only [go_sem] <;> omega) | fail) only [go_sem, Int.lt_irrefl, show ¬ la < 0 by omega] <;> try with_reducible rfl) | apply Wp.block | apply Wp.exitS | apply Wp.retS | apply Wp.exit | apply Wp.ret | apply Wp.skip)
      apply round_next
      · simp -implicitDefEqProofs (maxSteps := 2000000) (disch := first | exact tt_rfl rfl | omega | (simp only [go_sem] <;> omega) | fail) only [go_sem, norm_eq, Ok.some]; with_reducible rfl
      exact ⟨(100002 - (la + 1)).toNat, by omega, la + 1, by simp, rfl, by omega, by omega, hno3⟩
end Go.Abs

