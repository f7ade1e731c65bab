/-
  Chapter 7, without the reference: lengths that are cut out of a piece, out of bytes.
-/
import Derived.Test.YtfokmdhmaabegaaS27
set_option linter.all false
namespace Go.Abs
set_option maxRecDepth 10000
set_option maxHeartbeats 4000000

abbrev b8 (n : Nat) : AV := .int .u8 n
/-- a repeat, bad picks, and lengths, in bytes -/
structure BoltA where
  rep : Nat
  bad : List (Fin 256)
  cuts : List (Fin 256 × Fin 256)
  hr : rep < 256
def twoB (c : Fin 256 × Fin 256) : AV := .agg [b8 c.1.1, b8 c.2.1]
def BoltA.av (x : BoltA) : AV := .agg [b8 x.rep, .list 1 (x.bad.map fun n => b8 n.1), .list 2 (x.cuts.map twoB)]
def BoltA.r (x : BoltA) : Nat := 1 + x.rep % 30
def badAt (b : List (Fin 256)) : Nat → Nat
  | 0 => 0
  | i + 1 => badAt b i + (1 + (b[i]?.getD 0).1)
def badN (b : List (Fin 256)) (k : Nat) : List Int := (List.range k).map fun i => (badAt b (i + 1) : Int)
def cutOf (r : Nat) (c : Fin 256 × Fin 256) : Cut := ⟨(c.1.1 % r : Nat), 1 + (c.2.1 % 60 : Nat)⟩
def BoltA.badL (x : BoltA) : List Int := badN x.bad (min 10 x.bad.length)
def BoltA.l (x : BoltA) : List Cut := (x.cuts.take 7).map (cutOf x.r)

theorem badAt_le (b : List (Fin 256)) : ∀ i, badAt b i ≤ 257 * i
  | 0 => Nat.le_refl _
  | i + 1 => by
    have := badAt_le b i
    have := (b[i]?.getD 0).2
    simp only [badAt]; omega

theorem conv8B (n : Nat) (h : n < 256) : IntKind.wrap .i64 (n : Int) = (n : Int) := wrap_id (by omega) (by omega)
theorem tmodB (a b : Nat) : Int.tmod (a : Int) (b : Int) = ((a % b : Nat) : Int) := by
  rw [Int.tmod_eq_emod_of_nonneg (by omega)]; simp

theorem bolt_ok (x : BoltA) : lim F 55 [x.av] = some (.tuple [iv x.r, .own 1 (x.badL.map fun n => iv n), .own 2 (x.l.map Cut.av)], []) := by
  obtain ⟨rep, bad, cuts, hr⟩ := x
  have hm := tmodB rep 30
  have hm' : Int.tmod (rep : Int) 30 = ((rep % 30 : Nat) : Int) := hm
  have c0 := conv8B rep hr
  have hr30 : rep % 30 < 30 := Nat.mod_lt _ (by omega)
  simp only [BoltA.av, BoltA.r, BoltA.badL, BoltA.l]
  have e0 : (1 : Int) + ((rep % 30 : Nat) : Int) = ((1 + rep % 30 : Nat) : Int) := by omega
  generalize hrr : 1 + rep % 30 = r at *
  have hr0 : ¬ (r : Int) = 0 := by omega
  refine lim_by (fn := a55) (k := 1) (res := [.tmp 2, .tmp 3, .tmp 4]) rfl rfl rfl (by simp -implicitDefEqProofs (maxSteps := 2000000) (disch := first | exact tt_rfl rfl | omega | (simp only [go_sem] <;> omega) | fail) only [go_sem]) ?_
  simp -implicitDefEqProofs (maxSteps := 2000000) (disch := first | exact tt_rfl rfl | omega | (simp only [go_sem] <;> omega) | fail) only [go_sem]
  repeat (first | apply Wp.seqA | apply Wp.skipS | apply Wp.blockS | ((first | apply Wp.regS | apply Wp.condV | apply Wp.reg | apply Wp.condW | apply fin_ret); simp -implicitDefEqProofs (maxSteps := 2000000) (disch := first | exact tt_rfl rfl | omega | (simp only [go_sem] <;> omega) | fail) only [go_sem, c0, hm', e0] <;> try with_reducible rfl) | apply Wp.block | apply Wp.exitS | apply Wp.retS | apply Wp.exit | apply Wp.ret | apply Wp.skip)
  apply Wp.loopF (min 10 bad.length) (fun i => ⟨[(1, .ptr 64 0 0), (5, iv r), (6, .slice 384 0 i), (7, .slice 448 0 0), (8, iv (badAt bad i)), (9, iv i)], [(64, .box [b8 rep, .list 1 (bad.map fun n => b8 n.1), .list 2 (cuts.map twoB)]), (384, .arr 1 ((badN bad i).map fun n => iv n)), (448, .arr 2 [])], [], 1000000⟩) (fun _ => True)
  · simp -implicitDefEqProofs (maxSteps := 2000000) (disch := first | exact tt_rfl rfl | omega | (simp only [go_sem] <;> omega) | fail) only [go_sem, norm_eq, Ok.some]
    try simp [badN, badAt]
  · trivial
  intro i hi _
  have hba := badAt_le bad i
  by_cases h : i < min 10 bad.length
  · have h1 : i < bad.length := by omega
    have h2 : (i : Int) < 10 := by omega
    have x1 : bad[i]? = some bad[i] := List.getElem?_eq_getElem h1
    have hb := bad[i].2
    have c1 := conv8B bad[i].1 hb
    have e1 : badAt bad (i + 1) = badAt bad i + (1 + bad[i].1) := by simp [badAt, x1]
    have e2 : (badAt bad i : Int) + (1 + (bad[i].1 : Int)) = ((badAt bad (i + 1) : Nat) : Int) := by rw [e1]; omega
    have e3 : badN bad (i + 1) = badN bad i ++ [((badAt bad (i + 1) : Nat) : Int)] := by
      unfold badN; rw [List.range_succ, List.map_append]; rfl
    have e4 : (badN bad i).length = i := by simp [badN]
    repeat (first | apply Wp.seqA | apply Wp.skipS | apply Wp.blockS | ((first | apply Wp.regS | apply Wp.condV | apply Wp.reg | apply Wp.condW | apply fin_ret); simp -implicitDefEqProofs (maxSteps := 2000000) (disch := first | exact tt_rfl rfl | omega | (simp only [go_sem] <;> omega) | fail) only [go_sem, h1, Int.ofNat_lt, h2, List.getElem?_map, x1, Option.map_some, c1, e2] <;> try with_reducible rfl) | apply Wp.block | apply Wp.exitS | apply Wp.retS | apply Wp.exit | apply Wp.ret | apply Wp.skip)
    apply round_next
    · simp -implicitDefEqProofs (maxSteps := 2000000) (disch := first | exact tt_rfl rfl | omega | (simp only [go_sem] <;> omega) | fail) only [go_sem, norm_eq, Ok.some]; with_reducible rfl
    refine ⟨h, ?_, trivial⟩
    simp [e3]
  · have e : i = min 10 bad.length := by omega
    have hend : (¬ (i : Int) < bad.length ∧ True) ∨ ((i : Int) < bad.length ∧ ¬ (i : Int) < 10) := by
      by_cases c : i < bad.length
      · exact .inr ⟨by omega, by omega⟩
      · exact .inl ⟨by omega, trivial⟩
    have e4 : (badN bad i).length = i := by simp [badN]
    rw [← e]
    have fin : ∀ j : Nat, j < min 7 cuts.length → ∃ c : Fin 256 × Fin 256, cuts[j]? = some c ∧ cuts.take (j + 1) = cuts.take j ++ [c] := fun j hj => ⟨cuts[j]'(by omega), List.getElem?_eq_getElem (by omega), List.take_succ_eq_append_getElem (by omega)⟩
    rcases hend with ⟨q1, q2⟩ | ⟨q1, q2⟩
    all_goals
      repeat (first | apply Wp.seqA | apply Wp.skipS | apply Wp.blockS | ((first | apply Wp.regS | apply Wp.condV | apply Wp.reg | apply Wp.condW | apply fin_ret); simp -implicitDefEqProofs (maxSteps := 2000000) (disch := first | exact tt_rfl rfl | omega | (simp only [go_sem] <;> omega) | fail) only [go_sem, q1, q2] <;> try with_reducible rfl) | apply Wp.block | apply Wp.exitS | apply Wp.retS | apply Wp.exit | apply Wp.ret | apply Wp.skip)
      apply Wp.loopF (min 7 cuts.length) (fun j => ⟨[(1, .ptr 64 0 0), (5, iv r), (6, .slice 384 0 i), (7, .slice 448 0 j), (10, iv j)], [(64, .box [b8 rep, .list 1 (bad.map fun n => b8 n.1), .list 2 (cuts.map twoB)]), (384, .arr 1 ((badN bad i).map fun n => iv n)), (448, .arr 2 (((cuts.take j).map (cutOf r)).map Cut.av))], [], 1000000⟩) (fun _ => True)
      · simp -implicitDefEqProofs (maxSteps := 2000000) (disch := first | exact tt_rfl rfl | omega | (simp only [go_sem] <;> omega) | fail) only [go_sem, norm_eq, Ok.some]
        try simp
      · trivial
      intro j hj _
      have lt : (cuts.take j).length = j := by simp; omega
      by_cases h2 : j < min 7 cuts.length
      · obtain ⟨c, x1, x2⟩ := fin j h2
        have h1 : j < cuts.length := by omega
        have h7 : (j : Int) < 7 := by omega
        obtain ⟨⟨c1, hc1⟩, ⟨c2, hc2⟩⟩ := c
        have k1 := conv8B c1 hc1
        have k2 := conv8B c2 hc2
        have t1 := tmodB c1 r
        have t2 : Int.tmod (c2 : Int) 60 = ((c2 % 60 : Nat) : Int) := tmodB c2 60
        have m2 : c2 % 60 < 60 := Nat.mod_lt _ (by omega)
        repeat (first | apply Wp.seqA | apply Wp.skipS | apply Wp.blockS | ((first | apply Wp.regS | apply Wp.condV | apply Wp.reg | apply Wp.condW | apply fin_ret); simp -implicitDefEqProofs (maxSteps := 2000000) (disch := first | exact tt_rfl rfl | omega | (simp only [go_sem] <;> omega) | fail) only [go_sem, h1, Int.ofNat_lt, h7, List.getElem?_map, x1, Option.map_some, twoB, k1, k2, t1, t2, hr0] <;> try with_reducible rfl) | apply Wp.block | apply Wp.exitS | apply Wp.retS | apply Wp.exit | apply Wp.ret | apply Wp.skip)
        apply round_next
        · simp -implicitDefEqProofs (maxSteps := 2000000) (disch := first | exact tt_rfl rfl | omega | (simp only [go_sem] <;> omega) | fail) only [go_sem, norm_eq, Ok.some]; with_reducible rfl
        refine ⟨h2, ?_, trivial⟩
        simp [x2, cutOf, Cut.av]
      · have ej : j = min 7 cuts.length := by omega
        have e5 : cuts.take j = cuts.take 7 := by
          rw [ej]
          by_cases c : 7 ≤ cuts.length
          · rw [Nat.min_eq_left c]
          · rw [Nat.min_eq_right (by omega), List.take_of_length_le (Nat.le_refl _), List.take_of_length_le (by omega)]
        have hend2 : ¬ (j : Int) < cuts.length ∨ ((j : Int) < cuts.length ∧ ¬ (j : Int) < 7) := by omega
        rcases hend2 with q3 | ⟨q3, q4⟩
        · repeat (first | apply Wp.seqA | apply Wp.skipS | apply Wp.blockS | ((first | apply Wp.regS | apply Wp.condV | apply Wp.reg | apply Wp.condW | apply fin_ret); simp -implicitDefEqProofs (maxSteps := 2000000) (disch := first | exact tt_rfl rfl | omega | (simp only [go_sem] <;> omega) | fail) only [go_sem, q3] <;> try with_reducible rfl) | apply Wp.block | apply Wp.exitS | apply Wp.retS | apply Wp.exit | apply Wp.ret | apply Wp.skip)
          simp [e4, lt, e5]
        · repeat (first | apply Wp.seqA | apply Wp.skipS | apply Wp.blockS | ((first | apply Wp.regS | apply Wp.condV | apply Wp.reg | apply Wp.condW | apply fin_ret); simp -implicitDefEqProofs (maxSteps := 2000000) (disch := first | exact tt_rfl rfl | omega | (simp only [go_sem] <;> omega) | fail) only [go_sem, q3, q4] <;> try with_reducible rfl) | apply Wp.block | apply Wp.exitS | apply Wp.retS | apply Wp.exit | apply Wp.ret | apply Wp.skip)
          simp [e4, lt, e5]

theorem cutsE_of {r : Int} {bad : List Int} {l : List Cut} (hv : CutsOk r bad l) (hi : ∀ i : Nat, i + 1 < bad.length → bad[i]?.getD 0 < bad[i + 1]?.getD 0) : cutsE r bad l = 0 := by
  unfold cutsE
  rw [if_neg (by have := hv.rr; omega), if_neg (by have := hv.lb; have := hv.ll; omega), if_neg, if_neg, if_neg]
  · rintro ⟨i, h1, h2⟩
    have := hi i h1; omega
  · rw [Bool.not_eq_true, List.any_eq_false]
    intro c hc
    have := hv.cc c hc
    simp only [decide_eq_true_eq]
    rintro (h | h)
    · exact h this.1
    · exact h this.2
  · rw [Bool.not_eq_false, List.all_eq_true]
    intro b hb
    exact decide_eq_true (hv.bb b hb)
theorem badN_get {b : List (Fin 256)} {k i : Nat} (h : i < k) : (badN b k)[i]? = some (badAt b (i + 1) : Int) := by simp [badN, h]
theorem bolt_valid (x : BoltA) : CutsOk x.r x.badL x.l ∧ cutsE x.r x.badL x.l = 0 ∧ cutsE x.r [] x.l = 0 ∧ cutsE x.r x.badL x.l.tail = 0 ∧ x.badL.length ≤ 10 ∧ x.l.length ≤ 7 := by
  have hr30 : x.rep % 30 < 30 := Nat.mod_lt _ (by omega)
  have hrr : x.r = 1 + x.rep % 30 := rfl
  have lb : x.badL.length ≤ 10 := by simp [BoltA.badL, badN]; omega
  have ll : x.l.length ≤ 7 := by simp [BoltA.l]; omega
  have bb : ∀ b ∈ x.badL, 0 ≤ b ∧ b ≤ 100000 := by
    intro b hb
    obtain ⟨i, hi, rfl⟩ := List.mem_map.1 hb
    have := List.mem_range.1 hi
    have := badAt_le x.bad (i + 1)
    omega
  have cc : ∀ c ∈ x.l, (1 ≤ c.p ∧ c.p ≤ 200) ∧ (0 ≤ c.b ∧ c.b ≤ (x.r : Int) - 1) := by
    intro c hc
    obtain ⟨q, _, rfl⟩ := List.mem_map.1 hc
    have h1 : q.2.1 % 60 < 60 := Nat.mod_lt _ (by omega)
    have h2 : q.1.1 % x.r < x.r := Nat.mod_lt _ (by omega)
    simp only [cutOf]; omega
  have inc : ∀ i : Nat, i + 1 < x.badL.length → x.badL[i]?.getD 0 < x.badL[i + 1]?.getD 0 := by
    intro i hi
    have hl : x.badL.length = min 10 x.bad.length := by simp [BoltA.badL, badN]
    unfold BoltA.badL
    rw [badN_get (by omega), badN_get (by omega)]
    simp only [Option.getD_some]
    simp only [badAt]; omega
  have v1 : CutsOk x.r x.badL x.l := ⟨by omega, by omega, by omega, bb, cc⟩
  have v2 : CutsOk x.r [] x.l := ⟨by omega, by simp, by omega, by simp, cc⟩
  have v3 : CutsOk x.r x.badL x.l.tail := ⟨by omega, by omega, by rw [List.length_tail]; omega, bb, fun c hc => cc c (List.mem_of_mem_tail hc)⟩
  exact ⟨v1, cutsE_of v1 inc, cutsE_of v2 (by simp), cutsE_of v3 inc, lb, ll⟩

/-- with one bad pick fewer a length starts no later -/
theorem start_free {r : Int} {bad : List Int} {c : Cut} (hr : 1 ≤ r ∧ r ≤ 100) (hbad : ∀ b ∈ bad, 0 ≤ b ∧ b ≤ 100000) (hc : 0 ≤ c.b ∧ c.b ≤ r - 1) {f f' : Int} (hf : 0 ≤ f) (h : f ≤ f') : startF r [] c f ≤ startF r bad c f' := by
  have h1 := (start_spec (bad := []) hr (by simp) hc hf).1
  have h2 := (start_spec hr hbad hc (by omega : 0 ≤ f')).1
  apply Classical.byContradiction
  intro q
  exact h1.no _ (by have := h2.le; omega) (by omega) ⟨h2.ok.1, fun b hb => by cases hb⟩
theorem comp_free {r : Int} {bad : List Int} {l : List Cut} (hv : CutsOk r bad l) : ∀ (o : List Nat) {f g : Int}, 0 ≤ f → f ≤ g → (∀ i ∈ o, i < l.length) → comp r [] l o f ≤ comp r bad l o g
  | [], f, g, h0, h, _ => h
  | i :: o, f, g, h0, h, hi => by
    have h1 := hi i (by simp)
    have hc := hv.cc _ (cutAt_mem h1)
    have hs := start_free hv.rr hv.bb hc.2 h0 h
    have e1 : comp r [] l (i :: o) f = comp r [] l o (endF r [] l f i) := rfl
    have e2 : comp r bad l (i :: o) g = comp r bad l o (endF r bad l g i) := rfl
    have hv0 : CutsOk r [] l := ⟨hv.rr, by simp, hv.ll, by simp, hv.cc⟩
    have hb := endF_bound hv0 h0 h1
    rw [e1, e2]
    exact comp_free hv o (f := endF r [] l f i) (g := endF r bad l g i) (by omega) (by unfold endF; omega) fun j hj => hi j (List.mem_cons_of_mem _ hj)
theorem best_free {r : Int} {bad : List Int} {l : List Cut} (hv : CutsOk r bad l) {p : Nat → Bool} {x y : Int} (h1 : Best r [] l p 0 x) (h2 : Best r bad l p 0 y) : x ≤ y := by
  obtain ⟨⟨o, ho, hy⟩, _⟩ := h2
  have := h1.2 o ho
  have := comp_free hv o (Int.le_refl 0) (Int.le_refl 0) fun i hi => ((ho.2 i).1 hi).1
  omega
end Go.Abs
