/-
  Chapter 7, without the reference: contracts of ahead, fits, byteOf.
-/
import Derived.Test.YtfokmdhmaabegaaS33
set_option linter.all false
namespace Go.Abs
set_option maxRecDepth 10000
set_option maxHeartbeats 1000000

@[go_sem] theorem truths_take {α : Type} {k : Nat} {l : List α} (h : l.length ≤ k) : l.take k = l := List.take_of_length_le h

theorem ahead_ok (t : TruthA) (n : Nat) (ha : t.a.length = n) (hb : t.b.length = n) (hn : n ≤ 200) (hs : ∀ i, i < n → (0 ≤ atI t.a i ∧ atI t.a i ≤ 10000) ∧ (0 ≤ atI t.b i ∧ atI t.b i ≤ 10000)) :
    lim F 52 [t.av] = some (.own 1 (((List.range (n + 1)).map (ahT t.a t.b)).map fun n => iv n), []) := by
  have hbd : ∀ i, i ≤ n → -10000 * (i : Int) ≤ ahT t.a t.b i ∧ ahT t.a t.b i ≤ 10000 * i := by
    intro i
    induction i with
    | zero => intro _; simp [ahT]
    | succ i ih =>
      intro hi
      have := ih (by omega)
      have := hs i (by omega)
      simp only [ahT]; omega
  obtain ⟨tA, tB⟩ := t
  simp only [TruthA.av] at *
  refine lim_by (fn := a52) (k := 1) (res := [.tmp 2]) rfl rfl rfl (by simp -implicitDefEqProofs (maxSteps := 2000000) (disch := first | exact tt_rfl rfl | omega | (simp only [go_sem] <;> omega) | fail) only [go_sem]) ?_
  simp -implicitDefEqProofs (maxSteps := 2000000) (disch := first | exact tt_rfl rfl | omega | (simp only [go_sem] <;> omega) | fail) only [go_sem]
  repeat (first | apply Wp.seqA | apply Wp.skipS | apply Wp.blockS | ((first | apply Wp.regS | apply Wp.condV | apply Wp.reg | apply Wp.condW | apply fin_ret); simp -implicitDefEqProofs (maxSteps := 2000000) (disch := first | exact tt_rfl rfl | omega | (simp only [go_sem] <;> omega) | fail) only [go_sem] <;> try with_reducible rfl) | apply Wp.block | apply Wp.exitS | apply Wp.retS | apply Wp.exit | apply Wp.ret | apply Wp.skip)
  apply Wp.loopF n (fun i => ⟨[(1, .ptr 64 0 0), (3, .slice 192 0 (i + 1)), (4, iv i)], [(64, .box [.list 1 (tA.map fun n => iv n), .list 1 (tB.map fun n => iv n)]), (192, .arr 1 (((List.range (i + 1)).map (ahT tA tB)).map fun n => iv n))], [], 1000000⟩) (fun _ => True)
  · simp -implicitDefEqProofs (maxSteps := 2000000) (disch := first | exact tt_rfl rfl | omega | (simp only [go_sem] <;> omega) | fail) only [go_sem, norm_eq, Ok.some]
    try simp [ahT]
  · trivial
  intro i hi _
  by_cases h : i < n
  · have x1 : tA[i]? = some (atI tA i) := atI_eq (by omega)
    have x2 : tB[i]? = some (atI tB i) := atI_eq (by omega)
    have x3 : ((List.range (i + 1)).map (ahT tA tB))[i]? = some (ahT tA tB i) := by simp
    have k1 := hs i h
    have k2 := hbd i (by omega)
    clear hs hbd
    repeat (first | apply Wp.seqA | apply Wp.skipS | apply Wp.blockS | ((first | apply Wp.regS | apply Wp.condV | apply Wp.reg | apply Wp.condW | apply fin_ret); simp -implicitDefEqProofs (maxSteps := 2000000) (disch := first | exact tt_rfl rfl | omega | (simp only [go_sem] <;> omega) | fail) only [go_sem, h, Int.ofNat_lt, ha, hb, List.getElem?_map, x1, x2, x3, Option.map_some] <;> try with_reducible rfl) | apply Wp.block | apply Wp.exitS | apply Wp.retS | apply Wp.exit | apply Wp.ret | apply Wp.skip)
    apply round_next
    · simp -implicitDefEqProofs (maxSteps := 2000000) (disch := first | exact tt_rfl rfl | omega | (simp only [go_sem] <;> omega) | fail) only [go_sem, norm_eq, Ok.some]; with_reducible rfl
    refine ⟨h, ?_, trivial⟩
    rw [List.range_succ (n := i + 1)]
    simp [ahT]
  · obtain rfl : i = n := by omega
    repeat (first | apply Wp.seqA | apply Wp.skipS | apply Wp.blockS | ((first | apply Wp.regS | apply Wp.condV | apply Wp.reg | apply Wp.condW | apply fin_ret); simp -implicitDefEqProofs (maxSteps := 2000000) (disch := first | exact tt_rfl rfl | omega | (simp only [go_sem] <;> omega) | fail) only [go_sem, Int.lt_irrefl, ha, hb] <;> try with_reducible rfl) | apply Wp.block | apply Wp.exitS | apply Wp.retS | apply Wp.exit | apply Wp.ret | apply Wp.skip)

theorem fits_ok (t : TruthA) (a b : List Part) (n : Nat) (ha : a.length = n) (hb : b.length = n) (hta : t.a.length = n) (htb : t.b.length = n) (hn : n ≤ 200) (hf : ∀ i (h1 : i < a.length) (h2 : i < b.length), (a[i].lo ≤ atI t.a i ∧ atI t.a i ≤ a[i].hi) ∧ (b[i].lo ≤ atI t.b i ∧ atI t.b i ≤ b[i].hi)) :
    lim F 51 [t.av, .list 3 (a.map Part.av), .list 3 (b.map Part.av)] = some (.bool true, []) := by
  obtain ⟨tA, tB⟩ := t
  simp only [TruthA.av] at *
  refine lim_by (fn := a51) (k := 3) (res := [.tmp 6]) rfl rfl rfl (by simp -implicitDefEqProofs (maxSteps := 2000000) (disch := first | exact tt_rfl rfl | omega | (simp only [go_sem] <;> omega) | fail) only [go_sem]) ?_
  simp -implicitDefEqProofs (maxSteps := 2000000) (disch := first | exact tt_rfl rfl | omega | (simp only [go_sem] <;> omega) | fail) only [go_sem]
  repeat (first | apply Wp.seqA | apply Wp.skipS | apply Wp.blockS | ((first | apply Wp.regS | apply Wp.condV | apply Wp.reg | apply Wp.condW | apply fin_ret); simp -implicitDefEqProofs (maxSteps := 2000000) (disch := first | exact tt_rfl rfl | omega | (simp only [go_sem] <;> omega) | fail) only [go_sem, ha, hb, hta, htb] <;> try with_reducible rfl) | apply Wp.block | apply Wp.exitS | apply Wp.retS | apply Wp.exit | apply Wp.ret | apply Wp.skip)
  apply Wp.loopF n (fun i => ⟨[(1, .list 3 (a.map Part.av)), (2, .list 3 (b.map Part.av)), (3, .ptr 192 0 0), (7, iv i)], [(192, .box [.list 1 (tA.map fun n => iv n), .list 1 (tB.map fun n => iv n)])], [], 1000000⟩) (fun _ => True)
  · simp -implicitDefEqProofs (maxSteps := 2000000) (disch := first | exact tt_rfl rfl | omega | (simp only [go_sem] <;> omega) | fail) only [go_sem, norm_eq, Ok.some]
    try rfl
  · trivial
  intro i hi _
  by_cases h : i < n
  · have x1 : tA[i]? = some (atI tA i) := atI_eq (by omega)
    have x2 : tB[i]? = some (atI tB i) := atI_eq (by omega)
    have x3 : a[i]? = some (a[i]'(by omega)) := List.getElem?_eq_getElem (by omega)
    have x4 : b[i]? = some (b[i]'(by omega)) := List.getElem?_eq_getElem (by omega)
    obtain ⟨⟨k1, k2⟩, ⟨k3, k4⟩⟩ := hf i (by omega) (by omega)
    clear hf
    repeat (first | apply Wp.seqA | apply Wp.skipS | apply Wp.blockS | ((first | apply Wp.regS | apply Wp.condV | apply Wp.reg | apply Wp.condW | apply fin_ret); simp -implicitDefEqProofs (maxSteps := 2000000) (disch := first | exact tt_rfl rfl | omega | (simp only [go_sem] <;> omega) | fail) only [go_sem, h, Int.ofNat_lt, ha, hb, List.getElem?_map, x1, x2, x3, x4, Option.map_some, Part.av.eq_1, show ¬ atI tA i < (a[i]'(by omega)).lo by omega, show ¬ (a[i]'(by omega)).hi < atI tA i by omega, show ¬ atI tB i < (b[i]'(by omega)).lo by omega, show ¬ (b[i]'(by omega)).hi < atI tB i by omega] <;> try with_reducible rfl) | apply Wp.block | apply Wp.exitS | apply Wp.retS | apply Wp.exit | apply Wp.ret | apply Wp.skip)
    apply round_next
    · simp -implicitDefEqProofs (maxSteps := 2000000) (disch := first | exact tt_rfl rfl | omega | (simp only [go_sem] <;> omega) | fail) only [go_sem, norm_eq, Ok.some]; with_reducible rfl
    exact ⟨h, by simp, trivial⟩
  · obtain rfl : i = n := by omega
    repeat (first | apply Wp.seqA | apply Wp.skipS | apply Wp.blockS | ((first | apply Wp.regS | apply Wp.condV | apply Wp.reg | apply Wp.condW | apply fin_ret); simp -implicitDefEqProofs (maxSteps := 2000000) (disch := first | exact tt_rfl rfl | omega | (simp only [go_sem] <;> omega) | fail) only [go_sem, Int.lt_irrefl, ha] <;> try with_reducible rfl) | apply Wp.block | apply Wp.exitS | apply Wp.retS | apply Wp.exit | apply Wp.ret | apply Wp.skip)

theorem byteOf_ok (l : List (Fin 256)) (i : Nat) (hi : i < 1000000) : ∃ b : Nat, b < 256 ∧ lim F 56 [.list 1 (l.map fun n => u8 n.1), iv i] = some (iv b, []) := by
  by_cases h : l = []
  · refine ⟨0, by omega, ?_⟩
    subst h
    refine lim_by (fn := a56) (k := 2) (res := [.tmp 4]) rfl rfl rfl (by simp -implicitDefEqProofs (maxSteps := 2000000) (disch := first | exact tt_rfl rfl | omega | (simp only [go_sem] <;> omega) | fail) only [go_sem]) ?_
    simp -implicitDefEqProofs (maxSteps := 2000000) (disch := first | exact tt_rfl rfl | omega | (simp only [go_sem] <;> omega) | fail) only [go_sem]
    repeat (first | apply Wp.seqA | apply Wp.skipS | apply Wp.blockS | ((first | apply Wp.regS | apply Wp.condV | apply Wp.reg | apply Wp.condW | apply fin_ret); simp -implicitDefEqProofs (maxSteps := 2000000) (disch := first | exact tt_rfl rfl | omega | (simp only [go_sem] <;> omega) | fail) only [go_sem, List.map_nil] <;> try with_reducible rfl) | apply Wp.block | apply Wp.exitS | apply Wp.retS | apply Wp.exit | apply Wp.ret | apply Wp.skip)
  · have hp : 0 < l.length := List.length_pos_iff.2 h
    have hm : i % l.length < l.length := Nat.mod_lt _ hp
    refine ⟨l[i % l.length].1, l[i % l.length].2, ?_⟩
    have x1 : l[i % l.length]? = some l[i % l.length] := List.getElem?_eq_getElem hm
    have t1 := tmod_nat i l.length
    have c1 := conv8 l[i % l.length].1 l[i % l.length].2
    have h0 : ¬ (l.length : Int) = 0 := by omega
    refine lim_by (fn := a56) (k := 2) (res := [.tmp 4]) rfl rfl rfl (by simp -implicitDefEqProofs (maxSteps := 2000000) (disch := first | exact tt_rfl rfl | omega | (simp only [go_sem] <;> omega) | fail) only [go_sem]) ?_
    simp -implicitDefEqProofs (maxSteps := 2000000) (disch := first | exact tt_rfl rfl | omega | (simp only [go_sem] <;> omega) | fail) only [go_sem]
    repeat (first | apply Wp.seqA | apply Wp.skipS | apply Wp.blockS | ((first | apply Wp.regS | apply Wp.condV | apply Wp.reg | apply Wp.condW | apply fin_ret); simp -implicitDefEqProofs (maxSteps := 2000000) (disch := first | exact tt_rfl rfl | omega | (simp only [go_sem] <;> omega) | fail) only [go_sem, h0, t1, List.getElem?_map, x1, Option.map_some, c1] <;> try with_reducible rfl) | apply Wp.block | apply Wp.exitS | apply Wp.retS | apply Wp.exit | apply Wp.ret | apply Wp.skip)
end Go.Abs
