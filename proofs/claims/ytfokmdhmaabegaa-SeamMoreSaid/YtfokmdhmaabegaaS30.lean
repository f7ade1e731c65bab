/-
  Chapter 7, without the reference: contracts of the functions that make valid lengths and marks out of bytes.
-/
import Derived.Test.YtfokmdhmaabegaaS14
import Derived.Test.YtfokmdhmaabegaaBits
set_option linter.all false
namespace Go.Abs
set_option maxRecDepth 10000
set_option maxHeartbeats 1000000

structure Quad where
  a : Nat
  b : Nat
  c : Nat
  d : Nat
  ha : a < 256
  hb : b < 256
  hc : c < 256
  hd : d < 256
abbrev u8 (n : Nat) : AV := .int .u8 n
def Quad.av (q : Quad) : AV := .agg [u8 q.a, u8 q.b, u8 q.c, u8 q.d]
def quad0 : Quad := ⟨100, 100, 5, 5, by omega, by omega, by omega, by omega⟩
def Quad.pa (q : Quad) : Part := ⟨1, 200 + q.a % 20, 200 + q.a % 20 + q.c % 16⟩
def Quad.pb (q : Quad) : Part := ⟨1, 200 + q.b % 20, 200 + q.b % 20 + q.d % 16⟩
/-- two lengths in bytes, marks, and what truly is -/
structure Cloth where
  picks : List Quad
  marks : Nat
  truth : List (Fin 256)
  hm : marks < 65536
def Cloth.av (x : Cloth) : AV := .agg [.list 4 (x.picks.map Quad.av), .int .u16 x.marks, .list 1 (x.truth.map fun n => u8 n.1)]
def Cloth.qs (x : Cloth) : List Quad := if x.picks = [] then [quad0] else x.picks.take 12
theorem qs_len (x : Cloth) : 1 ≤ x.qs.length ∧ x.qs.length ≤ 12 := by
  unfold Cloth.qs
  by_cases h : x.picks = []
  · simp [h]
  · rw [if_neg h]
    have : 0 < x.picks.length := List.length_pos_iff.2 h
    rw [List.length_take]; omega

theorem span_ok (a b : Int) : lim F 53 [iv a, iv b] = some (.agg [iv a, iv b], []) := by
  refine lim_by (fn := a53) (k := 2) (res := [.cell 4 2 true]) rfl rfl rfl (by simp -implicitDefEqProofs (maxSteps := 2000000) (disch := first | exact tt_rfl rfl | omega | (simp only [go_sem] <;> omega) | fail) only [go_sem]) ?_
  simp -implicitDefEqProofs (maxSteps := 2000000) (disch := first | exact tt_rfl rfl | omega | (simp only [go_sem] <;> omega) | fail) only [go_sem]
  repeat (first | apply Wp.seqA | apply Wp.skipS | apply Wp.blockS | ((first | apply Wp.regS | apply Wp.condV | apply Wp.reg | apply Wp.condW | apply fin_ret); simp -implicitDefEqProofs (maxSteps := 2000000) (disch := first | exact tt_rfl rfl | omega | (simp only [go_sem] <;> omega) | fail) only [go_sem] <;> try with_reducible rfl) | apply Wp.block | apply Wp.exitS | apply Wp.retS | apply Wp.exit | apply Wp.ret | apply Wp.skip)
theorem part_ok (p a b : Int) : lim F 81 [iv p, iv a, iv b] = some (.agg [iv p, iv a, iv b], []) := by
  have h := span_ok a b
  refine lim_by (fn := a81) (k := 3) (res := [.cell 6 3 true]) rfl rfl rfl (by simp -implicitDefEqProofs (maxSteps := 2000000) (disch := first | exact tt_rfl rfl | omega | (simp only [go_sem] <;> omega) | fail) only [go_sem]) ?_
  simp -implicitDefEqProofs (maxSteps := 2000000) (disch := first | exact tt_rfl rfl | omega | (simp only [go_sem] <;> omega) | fail) only [go_sem]
  repeat (first | apply Wp.seqA | apply Wp.skipS | apply Wp.blockS | ((first | apply Wp.regS | apply Wp.condV | apply Wp.reg | apply Wp.condW | apply fin_ret); simp -implicitDefEqProofs (maxSteps := 2000000) (disch := first | exact tt_rfl rfl | omega | (simp only [go_sem] <;> omega) | fail) only [go_sem, h] <;> try with_reducible rfl) | apply Wp.block | apply Wp.exitS | apply Wp.retS | apply Wp.exit | apply Wp.ret | apply Wp.skip)

theorem conv8 (n : Nat) (h : n < 256) : IntKind.wrap .i64 (n : Int) = (n : Int) := wrap_nat (by omega)
theorem tmod_nat (a b : Nat) : Int.tmod (a : Int) (b : Int) = ((a % b : Nat) : Int) := by
  rw [Int.tmod_eq_emod_of_nonneg (by omega)]; simp
theorem tmod20 (a : Nat) : Int.tmod (a : Int) 20 = ((a % 20 : Nat) : Int) := tmod_nat a 20
theorem tmod16 (a : Nat) : Int.tmod (a : Int) 16 = ((a % 16 : Nat) : Int) := tmod_nat a 16

theorem lengths_ok (x : Cloth) : lim F 48 [x.av] = some (.tuple [.own 3 ((x.qs.map Quad.pa).map Part.av), .own 3 ((x.qs.map Quad.pb).map Part.av)], []) := by
  have hq := qs_len x
  have hqs : ∀ i, i < x.qs.length → x.qs[i]? = (if i < x.picks.length then x.picks[i]? else some quad0) := by
    intro i hi
    unfold Cloth.qs at hi ⊢
    by_cases h : x.picks = []
    · rw [if_pos h] at hi ⊢
      simp at hi
      subst hi
      simp [h]
    · rw [if_neg h] at hi ⊢
      rw [List.length_take] at hi
      rw [if_pos (by omega), List.getElem?_take, if_pos (by omega)]
  have hcond : ∀ i, i < x.qs.length ↔ (i = 0 ∨ (i < x.picks.length ∧ i < 12)) := by
    intro i
    unfold Cloth.qs
    by_cases h : x.picks = []
    · rw [if_pos h]; simp [h]
    · rw [if_neg h, List.length_take]
      have : 0 < x.picks.length := List.length_pos_iff.2 h
      omega
  obtain ⟨picks, marks, truth, hm⟩ := x
  simp only [Cloth.av] at *
  generalize hqq : (⟨picks, marks, truth, hm⟩ : Cloth).qs = qs at *
  refine lim_by (fn := a48) (k := 1) (res := [.tmp 2, .tmp 3]) rfl rfl rfl (by simp -implicitDefEqProofs (maxSteps := 2000000) (disch := first | exact tt_rfl rfl | omega | (simp only [go_sem] <;> omega) | fail) only [go_sem]) ?_
  simp -implicitDefEqProofs (maxSteps := 2000000) (disch := first | exact tt_rfl rfl | omega | (simp only [go_sem] <;> omega) | fail) only [go_sem]
  repeat (first | apply Wp.seqA | apply Wp.skipS | apply Wp.blockS | ((first | apply Wp.regS | apply Wp.condV | apply Wp.reg | apply Wp.condW | apply fin_ret); simp -implicitDefEqProofs (maxSteps := 2000000) (disch := first | exact tt_rfl rfl | omega | (simp only [go_sem] <;> omega) | fail) only [go_sem] <;> try with_reducible rfl) | apply Wp.block | apply Wp.exitS | apply Wp.retS | apply Wp.exit | apply Wp.ret | apply Wp.skip)
  apply Wp.loopF qs.length (fun i => ⟨[(1, .ptr 64 0 0), (4, .slice 256 0 i), (5, .slice 320 0 i), (6, iv i)], [(64, .box [.list 4 (picks.map Quad.av), .int .u16 marks, .list 1 (truth.map fun n => u8 n.1)]), (256, .arr 3 (((qs.take i).map Quad.pa).map Part.av)), (320, .arr 3 (((qs.take i).map Quad.pb).map Part.av))], [], 1000000⟩) (fun _ => True)
  · simp -implicitDefEqProofs (maxSteps := 2000000) (disch := first | exact tt_rfl rfl | omega | (simp only [go_sem] <;> omega) | fail) only [go_sem, norm_eq, Ok.some]
    try rfl
  · trivial
  intro i hi _
  have hc := hcond i
  by_cases h : i < qs.length
  · have hx := hqs i h
    rw [List.getElem?_eq_getElem h] at hx
    generalize hv : qs[i] = v at *
    have e1 : (qs.take (i + 1)) = qs.take i ++ [v] := by rw [List.take_succ_eq_append_getElem h, hv]
    obtain ⟨va, vb, vc, vd, h1, h2, h3, h4⟩ := v
    have c1 := conv8 va h1
    have c2 := conv8 vb h2
    have c3 := conv8 vc h3
    have c4 := conv8 vd h4
    have t1 := tmod20 va
    have t2 := tmod20 vb
    have t3 := tmod16 vc
    have t4 := tmod16 vd
    have p1 := part_ok 1 (200 + (va % 20 : Nat)) (200 + (va % 20 : Nat) + (vc % 16 : Nat))
    have p2 := part_ok 1 (200 + (vb % 20 : Nat)) (200 + (vb % 20 : Nat) + (vd % 16 : Nat))
    have m1 : va % 20 < 20 := Nat.mod_lt _ (by omega)
    have m2 : vb % 20 < 20 := Nat.mod_lt _ (by omega)
    have m3 : vc % 16 < 16 := Nat.mod_lt _ (by omega)
    have m4 : vd % 16 < 16 := Nat.mod_lt _ (by omega)
    have lta : (qs.take i).length = i := by simp; omega
    clear hqs hcond
    by_cases hip : i < picks.length
    · rw [if_pos hip] at hx
      by_cases h0 : i = 0
      · subst h0
        repeat (first | apply Wp.seqA | apply Wp.skipS | apply Wp.blockS | ((first | apply Wp.regS | apply Wp.condV | apply Wp.reg | apply Wp.condW | apply fin_ret); simp -implicitDefEqProofs (maxSteps := 2000000) (disch := first | exact tt_rfl rfl | omega | (simp only [go_sem] <;> omega) | fail) only [go_sem, hip, Int.ofNat_lt, List.getElem?_map, ← hx, Option.map_some, Quad.av.eq_1, c1, c2, c3, c4, t1, t2, t3, t4, p1, p2, show (0 : Int) < picks.length by omega] <;> try with_reducible rfl) | apply Wp.block | apply Wp.exitS | apply Wp.retS | apply Wp.exit | apply Wp.ret | apply Wp.skip)
        apply round_next
        · simp -implicitDefEqProofs (maxSteps := 2000000) (disch := first | exact tt_rfl rfl | omega | (simp only [go_sem] <;> omega) | fail) only [go_sem, norm_eq, Ok.some]; with_reducible rfl
        refine ⟨h, ?_, trivial⟩
        rw [e1]
        simp [Quad.pa, Quad.pb, Part.av]
      · have hi12 : (i : Int) < 12 := by omega
        have h0' : ¬ (i : Int) = 0 := by omega
        repeat (first | apply Wp.seqA | apply Wp.skipS | apply Wp.blockS | ((first | apply Wp.regS | apply Wp.condV | apply Wp.reg | apply Wp.condW | apply fin_ret); simp -implicitDefEqProofs (maxSteps := 2000000) (disch := first | exact tt_rfl rfl | omega | (simp only [go_sem] <;> omega) | fail) only [go_sem, hip, Int.ofNat_lt, List.getElem?_map, ← hx, Option.map_some, Quad.av.eq_1, c1, c2, c3, c4, t1, t2, t3, t4, p1, p2, h0', hi12] <;> try with_reducible rfl) | apply Wp.block | apply Wp.exitS | apply Wp.retS | apply Wp.exit | apply Wp.ret | apply Wp.skip)
        apply round_next
        · simp -implicitDefEqProofs (maxSteps := 2000000) (disch := first | exact tt_rfl rfl | omega | (simp only [go_sem] <;> omega) | fail) only [go_sem, norm_eq, Ok.some]; with_reducible rfl
        refine ⟨h, ?_, trivial⟩
        rw [e1]
        simp [Quad.pa, Quad.pb, Part.av]
    · rw [if_neg hip] at hx
      have h0 : i = 0 := by
        rcases hc.1 h with h | h
        · exact h
        · exact absurd h.1 hip
      subst h0
      simp only [Option.some.injEq, quad0, Quad.mk.injEq] at hx
      obtain ⟨rfl, rfl, rfl, rfl⟩ := hx
      have p1 := part_ok 1 200 205
      repeat (first | apply Wp.seqA | apply Wp.skipS | apply Wp.blockS | ((first | apply Wp.regS | apply Wp.condV | apply Wp.reg | apply Wp.condW | apply fin_ret); simp -implicitDefEqProofs (maxSteps := 2000000) (disch := first | exact tt_rfl rfl | omega | (simp only [go_sem] <;> omega) | fail) only [go_sem, show ¬ (0 : Int) < picks.length by omega, show Int.tmod 100 20 = 0 by rfl, show Int.tmod 5 16 = 5 by rfl, p1] <;> try with_reducible rfl) | apply Wp.block | apply Wp.exitS | apply Wp.retS | apply Wp.exit | apply Wp.ret | apply Wp.skip)
      apply round_next
      · simp -implicitDefEqProofs (maxSteps := 2000000) (disch := first | exact tt_rfl rfl | omega | (simp only [go_sem] <;> omega) | fail) only [go_sem, norm_eq, Ok.some]; with_reducible rfl
      refine ⟨h, ?_, trivial⟩
      rw [e1]
      simp [Quad.pa, Quad.pb, Part.av]
  · obtain rfl : i = qs.length := by omega
    have h0 : ¬ (qs.length : Int) = 0 := by omega
    have hf : ¬ (qs.length < picks.length ∧ qs.length < 12) := fun hh => h (hc.2 (.inr hh))
    clear hqs hcond
    by_cases q : qs.length < picks.length
    · have q2 : ¬ (qs.length : Int) < 12 := by omega
      repeat (first | apply Wp.seqA | apply Wp.skipS | apply Wp.blockS | ((first | apply Wp.regS | apply Wp.condV | apply Wp.reg | apply Wp.condW | apply fin_ret); simp -implicitDefEqProofs (maxSteps := 2000000) (disch := first | exact tt_rfl rfl | omega | (simp only [go_sem] <;> omega) | fail) only [go_sem, h0, q, q2, Int.ofNat_lt, List.take_length] <;> try with_reducible rfl) | apply Wp.block | apply Wp.exitS | apply Wp.retS | apply Wp.exit | apply Wp.ret | apply Wp.skip)
    · repeat (first | apply Wp.seqA | apply Wp.skipS | apply Wp.blockS | ((first | apply Wp.regS | apply Wp.condV | apply Wp.reg | apply Wp.condW | apply fin_ret); simp -implicitDefEqProofs (maxSteps := 2000000) (disch := first | exact tt_rfl rfl | omega | (simp only [go_sem] <;> omega) | fail) only [go_sem, h0, q, Int.ofNat_lt, List.take_length] <;> try with_reducible rfl) | apply Wp.block | apply Wp.exitS | apply Wp.retS | apply Wp.exit | apply Wp.ret | apply Wp.skip)
end Go.Abs
