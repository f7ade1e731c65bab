/-
  Chapter 7, without the reference: the contract of truth.
-/
import Derived.Test.YtfokmdhmaabegaaS35
set_option linter.all false
namespace Go.Abs
set_option maxRecDepth 10000
set_option maxHeartbeats 1000000

/-- a width that can be for each pick -/
def InParts (l : List Part) (t : List Int) (n : Nat) : Prop := ∀ i, i < n → ∀ (h : i < l.length), l[i].lo ≤ atI t i ∧ atI t i ≤ l[i].hi

theorem truth_ok (x : Cloth) (a b : List Part) (n : Nat) (ha : a.length = n) (hb : b.length = n) (hn : n ≤ 100) (oa : ∀ p ∈ a, p.Ok) (ob : ∀ p ∈ b, p.Ok) :
    ∃ q, lim F 58 [x.av, .list 3 (a.map Part.av), .list 3 (b.map Part.av)] = some q ∧ ∃ t : TruthA, q = (.agg [.own 1 (t.a.map fun n => iv n), .own 1 (t.b.map fun n => iv n)], []) ∧ t.a.length = n ∧ t.b.length = n ∧ InParts a t.a n ∧ InParts b t.b n := by
  obtain ⟨picks, marks, truth, hm⟩ := x
  simp only [Cloth.av] at *
  refine lim_ex (fn := a58) (k := 3) (res := [.cell 6 2 true]) rfl rfl rfl (by simp -implicitDefEqProofs (maxSteps := 2000000) (disch := first | exact tt_rfl rfl | omega | (simp only [go_sem] <;> omega) | fail) only [go_sem]) ?_
  simp -implicitDefEqProofs (maxSteps := 2000000) (disch := first | exact tt_rfl rfl | omega | (simp only [go_sem] <;> omega) | fail) only [go_sem]
  repeat (first | apply Wp.seqA | apply Wp.skipS | apply Wp.blockS | ((first | apply Wp.regS | apply Wp.condV | apply Wp.reg | apply Wp.condW | apply fin_ret); simp -implicitDefEqProofs (maxSteps := 2000000) (disch := first | exact tt_rfl rfl | omega | (simp only [go_sem] <;> omega) | fail) only [go_sem] <;> try with_reducible rfl) | apply Wp.block | apply Wp.exitS | apply Wp.retS | apply Wp.exit | apply Wp.ret | apply Wp.skip)
  apply Wp.loopN n (fun i fr => ∃ A B : List Int, fr = ⟨[(1, .list 3 (a.map Part.av)), (2, .list 3 (b.map Part.av)), (3, .ptr 192 0 0), (6, .ptr 384 0 0), (7, .ptr 448 0 0), (8, iv i)],
    [(192, .box [.list 4 (picks.map Quad.av), .int .u16 marks, .list 1 (truth.map fun n => u8 n.1)]), (384, .box [.slice 56144 0 0, .slice 56145 0 0]), (448, .box [.slice 57168 0 A.length, .slice 57169 0 B.length]), (56144, .arr 1 []), (56145, .arr 1 []), (57168, .arr 1 (A.map fun n => iv n)), (57169, .arr 1 (B.map fun n => iv n))], [], 1000000⟩ ∧
    A.length = i ∧ B.length = i ∧ InParts a A i ∧ InParts b B i)
  · simp -implicitDefEqProofs (maxSteps := 2000000) (disch := first | exact tt_rfl rfl | omega | (simp only [go_sem] <;> omega) | fail) only [go_sem, norm_eq, Ok.some]
    exact ⟨[], [], rfl, rfl, rfl, fun i hi => by omega, fun i hi => by omega⟩
  rintro i fr hi ⟨A, B, rfl, lA, lB, hA, hB⟩
  by_cases h : i < n
  · have x3 : a[i]? = some (a[i]'(by omega)) := List.getElem?_eq_getElem (by omega)
    have x4 : b[i]? = some (b[i]'(by omega)) := List.getElem?_eq_getElem (by omega)
    obtain ⟨a1, a2, a3⟩ := oa (a[i]'(by omega)) (List.getElem_mem _)
    obtain ⟨b1, b2, b3⟩ := ob (b[i]'(by omega)) (List.getElem_mem _)
    obtain ⟨u, hu, h1⟩ := byteOf_ok truth (2 * i) (by omega)
    obtain ⟨v, hv, h2⟩ := byteOf_ok truth (2 * i + 1) (by omega)
    generalize a[i]'(by omega) = pa at *
    generalize b[i]'(by omega) = pb at *
    have e1 : (2 : Int) * i = ((2 * i : Nat) : Int) := by omega
    have e2 : ((2 * i : Nat) : Int) + 1 = ((2 * i + 1 : Nat) : Int) := by omega
    have t1 : Int.tmod (u : Int) (pa.hi - pa.lo + 1) = (u : Int) % (pa.hi - pa.lo + 1) := Int.tmod_eq_emod_of_nonneg (by omega)
    have t2 : Int.tmod (v : Int) (pb.hi - pb.lo + 1) = (v : Int) % (pb.hi - pb.lo + 1) := Int.tmod_eq_emod_of_nonneg (by omega)
    have r1 := Int.emod_nonneg (u : Int) (by omega : pa.hi - pa.lo + 1 ≠ 0)
    have r2 := Int.emod_lt_of_pos (u : Int) (by omega : 0 < pa.hi - pa.lo + 1)
    have r3 := Int.emod_nonneg (v : Int) (by omega : pb.hi - pb.lo + 1 ≠ 0)
    have r4 := Int.emod_lt_of_pos (v : Int) (by omega : 0 < pb.hi - pb.lo + 1)
    generalize (u : Int) % (pa.hi - pa.lo + 1) = ru at *
    generalize (v : Int) % (pb.hi - pb.lo + 1) = rv at *
    have z1 : ¬ pa.hi - pa.lo + 1 = 0 := by omega
    have z2 : ¬ pb.hi - pb.lo + 1 = 0 := by omega
    clear oa ob
    repeat (first | apply Wp.seqA | apply Wp.skipS | apply Wp.blockS | ((first | apply Wp.regS | apply Wp.condV | apply Wp.reg | apply Wp.condW | apply fin_ret); simp -implicitDefEqProofs (maxSteps := 2000000) (disch := first | exact tt_rfl rfl | omega | (simp only [go_sem] <;> omega) | fail) only [go_sem, h, Int.ofNat_lt, ha, hb, List.getElem?_map, x3, x4, Option.map_some, Part.av.eq_1, h1, h2, e1, e2, t1, t2, z1, z2] <;> try with_reducible rfl) | apply Wp.block | apply Wp.exitS | apply Wp.retS | apply Wp.exit | apply Wp.ret | apply Wp.skip)
    apply round_next
    · simp -implicitDefEqProofs (maxSteps := 2000000) (disch := first | exact tt_rfl rfl | omega | (simp only [go_sem] <;> omega) | fail) only [go_sem, norm_eq, Ok.some]; with_reducible rfl
    refine ⟨h, A ++ [pa.lo + ru], B ++ [pb.lo + rv], by simp, by simp [lA], by simp [lB], fun j hj hjl => ?_, fun j hj hjl => ?_⟩
    · by_cases e : j = i
      · subst e
        rw [List.getElem?_eq_getElem hjl] at x3
        simp only [Option.some.injEq] at x3
        rw [x3]
        have : atI (A ++ [pa.lo + ru]) j = pa.lo + ru := by simp [atI, ← lA]
        rw [this]; omega
      · rw [atI_app1 (by omega)]; exact hA j (by omega) hjl
    · by_cases e : j = i
      · subst e
        rw [List.getElem?_eq_getElem hjl] at x4
        simp only [Option.some.injEq] at x4
        rw [x4]
        have : atI (B ++ [pb.lo + rv]) j = pb.lo + rv := by simp [atI, ← lB]
        rw [this]; omega
      · rw [atI_app1 (by omega)]; exact hB j (by omega) hjl
  · obtain rfl : i = n := by omega
    repeat (first | apply Wp.seqA | apply Wp.skipS | apply Wp.blockS | ((first | apply Wp.regS | apply Wp.condV | apply Wp.reg | apply Wp.condW | apply fin_ret); simp -implicitDefEqProofs (maxSteps := 2000000) (disch := first | exact tt_rfl rfl | omega | (simp only [go_sem] <;> omega) | fail) only [go_sem, Int.lt_irrefl, ha] <;> try with_reducible rfl) | apply Wp.block | apply Wp.exitS | apply Wp.retS | apply Wp.exit | apply Wp.ret | apply Wp.skip)
    refine finp_norm (r := (.agg [.own 1 (A.map fun n => iv n), .own 1 (B.map fun n => iv n)], [])) ?_ ⟨⟨A, B⟩, rfl, lA, lB, hA, hB⟩
    simp -implicitDefEqProofs (maxSteps := 2000000) (disch := first | exact tt_rfl rfl | omega | (simp only [go_sem] <;> omega) | fail) only [go_sem]
end Go.Abs
