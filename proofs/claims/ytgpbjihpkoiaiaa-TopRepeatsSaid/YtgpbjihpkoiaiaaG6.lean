/-
 Several texts: G3, G4, G6.
-/
import Derived.Test.YtgpbjihpkoiaiaaG2
set_option linter.all false
namespace Go.Abs.Beam
set_option maxRecDepth 10000
set_option maxHeartbeats 1000000
def firstP (p : Nat → Bool) (N : Nat) : Nat := (List.range N).findIdx p
theorem wrap_u64 {n : Int} (h1 : 0 ≤ n) (h2 : n < 18446744073709551616) : IntKind.wrap .u64 n = n := by
 simp [IntKind.wrap, IntKind.signed, IntKind.bits]; omega
end Go.Abs.Beam
set_option linter.all false
namespace Go.Abs.Beam
set_option maxRecDepth 10000
set_option maxHeartbeats 1000000
abbrev SpanOk (a b least most : Int) : Prop := least ≤ a ∧ a ≤ b ∧ b ≤ most
theorem isSpan_ok (a b least most : Int) : lim F 137 [.agg [iv a, iv b], iv least, iv most] = some (.bool (decide (SpanOk a b least most)), []) := by
 have h := within_ok least most [a, b] (by simp)
 simp only [List.map_cons, List.map_nil, List.all_cons, List.all_nil, Bool.and_true] at h;by_cases h1 : least ≤ a ∧ a ≤ most
 ·by_cases h2 : least ≤ b ∧ b ≤ most
  ·by_cases h3 : a ≤ b
   ·refine lim_by (fn := a137) (k := 3) (res := [.tmp 6]) rfl rfl rfl (by simp -implicitDefEqProofs (maxSteps := 2000000) (disch := first | exact tt_rfl rfl | omega | (simp only [go_sem] <;> omega) | fail) only [go_sem]) ?_
    try delta mvA
    try delta opA
    try delta tA
    simp -implicitDefEqProofs (maxSteps := 2000000) (disch := first | exact tt_rfl rfl | omega | (simp only [go_sem] <;> omega) | fail) only [go_sem]
    repeat (first | apply Wp.seqA | apply Wp.skipS | apply Wp.blockS | ((first | apply Wp.regS | apply Wp.condV | apply Wp.reg | apply Wp.condW | apply fin_ret); simp -implicitDefEqProofs (maxSteps := 2000000) (disch := first | exact tt_rfl rfl | omega | (simp only [go_sem] <;> omega) | fail) only [go_sem, h, h1, h2, h3] <;> try with_reducible rfl) | apply Wp.block | apply Wp.exitS | apply Wp.retS | apply Wp.exit | apply Wp.ret | apply Wp.skip)
    rw [decide_eq_true];omega
   ·refine lim_by (fn := a137) (k := 3) (res := [.tmp 6]) rfl rfl rfl (by simp -implicitDefEqProofs (maxSteps := 2000000) (disch := first | exact tt_rfl rfl | omega | (simp only [go_sem] <;> omega) | fail) only [go_sem]) ?_
    try delta mvA
    try delta opA
    try delta tA
    simp -implicitDefEqProofs (maxSteps := 2000000) (disch := first | exact tt_rfl rfl | omega | (simp only [go_sem] <;> omega) | fail) only [go_sem]
    repeat (first | apply Wp.seqA | apply Wp.skipS | apply Wp.blockS | ((first | apply Wp.regS | apply Wp.condV | apply Wp.reg | apply Wp.condW | apply fin_ret); simp -implicitDefEqProofs (maxSteps := 2000000) (disch := first | exact tt_rfl rfl | omega | (simp only [go_sem] <;> omega) | fail) only [go_sem, h, h1, h2, h3] <;> try with_reducible rfl) | apply Wp.block | apply Wp.exitS | apply Wp.retS | apply Wp.exit | apply Wp.ret | apply Wp.skip)
    rw [decide_eq_false];omega
  ·rw [decide_eq_true h1, decide_eq_false h2] at h
   rw [Bool.and_false] at h;refine lim_by (fn := a137) (k := 3) (res := [.tmp 6]) rfl rfl rfl (by simp -implicitDefEqProofs (maxSteps := 2000000) (disch := first | exact tt_rfl rfl | omega | (simp only [go_sem] <;> omega) | fail) only [go_sem]) ?_
   try delta mvA
   try delta opA
   try delta tA
   simp -implicitDefEqProofs (maxSteps := 2000000) (disch := first | exact tt_rfl rfl | omega | (simp only [go_sem] <;> omega) | fail) only [go_sem]
   repeat (first | apply Wp.seqA | apply Wp.skipS | apply Wp.blockS | ((first | apply Wp.regS | apply Wp.condV | apply Wp.reg | apply Wp.condW | apply fin_ret); simp -implicitDefEqProofs (maxSteps := 2000000) (disch := first | exact tt_rfl rfl | omega | (simp only [go_sem] <;> omega) | fail) only [go_sem, h] <;> try with_reducible rfl) | apply Wp.block | apply Wp.exitS | apply Wp.retS | apply Wp.exit | apply Wp.ret | apply Wp.skip)
   rw [decide_eq_false];omega
 ·rw [decide_eq_false h1, Bool.false_and] at h
  refine lim_by (fn := a137) (k := 3) (res := [.tmp 6]) rfl rfl rfl (by simp -implicitDefEqProofs (maxSteps := 2000000) (disch := first | exact tt_rfl rfl | omega | (simp only [go_sem] <;> omega) | fail) only [go_sem]) ?_
  try delta mvA
  try delta opA
  try delta tA
  simp -implicitDefEqProofs (maxSteps := 2000000) (disch := first | exact tt_rfl rfl | omega | (simp only [go_sem] <;> omega) | fail) only [go_sem]
  repeat (first | apply Wp.seqA | apply Wp.skipS | apply Wp.blockS | ((first | apply Wp.regS | apply Wp.condV | apply Wp.reg | apply Wp.condW | apply fin_ret); simp -implicitDefEqProofs (maxSteps := 2000000) (disch := first | exact tt_rfl rfl | omega | (simp only [go_sem] <;> omega) | fail) only [go_sem, h] <;> try with_reducible rfl) | apply Wp.block | apply Wp.exitS | apply Wp.retS | apply Wp.exit | apply Wp.ret | apply Wp.skip)
  rw [decide_eq_false];omega
def insideV (a b n : Int) : Int := a + n % (b - a + 1)
end Go.Abs.Beam
set_option linter.all false
namespace Go.Abs.Beam
set_option maxRecDepth 10000
set_option maxHeartbeats 2000000
def longR (n d p r : Int) : Int := p * n * (1000 - r) / (d * 1000)
structure ROk (n d p : Int) : Prop where
 n0 : 1 ≤ n
 n1 : n ≤ 25000000000
 d0 : 1 ≤ d
 d1 : d ≤ 1000000
 p0 : 0 ≤ p
 p1 : p ≤ 100000
theorem ROk.a {n d p : Int} (h : ROk n d p) : 0 ≤ p * n ∧ p * n ≤ 2500000000000000 := by
 have h1 : 0 ≤ p * n := Int.mul_nonneg h.p0 (by have := h.n0; omega)
 have h2 := Int.mul_le_mul h.p1 h.n1 (by have := h.n0; omega) (by omega)
 exact ⟨h1, by omega⟩
theorem ROk.b {n d p r : Int} (h : ROk n d p) (h0 : 0 ≤ r) (h1 : r ≤ 1000) : 0 ≤ p * n * (1000 - r) ∧ p * n * (1000 - r) ≤ 2500000000000000000 := by
 have ha := h.a;have h1' : 0 ≤ p * n * (1000 - r) := Int.mul_nonneg ha.1 (by omega)
 have h2 := Int.mul_le_mul ha.2 (show 1000 - r ≤ 1000 by omega) (by omega) (by omega)
 exact ⟨h1', by omega⟩
theorem ROk.l {n d p r : Int} (h : ROk n d p) (h0 : 0 ≤ r) (h1 : r ≤ 1000) : 0 ≤ longR n d p r ∧ longR n d p r ≤ 2500000000000000000 := by
 have hb := h.b h0 h1;have hd := h.d0;have h3 : 0 ≤ longR n d p r := Int.ediv_nonneg hb.1 (by omega)
 have h4 : longR n d p r ≤ p * n * (1000 - r) := Int.ediv_le_self _ hb.1;exact ⟨h3, by omega⟩
theorem ROk.mono {n d p r r' : Int} (h : ROk n d p) (h0 : r ≤ r') : longR n d p r' ≤ longR n d p r := by
 have ha := h.a;have h1 : p * n * (1000 - r') ≤ p * n * (1000 - r) := Int.mul_le_mul_of_nonneg_left (by omega) ha.1
 exact Int.ediv_le_ediv (by have := h.d0; omega) h1
theorem long_ok (n d p r : Int) (h : ROk n d p) (h0 : 0 ≤ r) (h1 : r ≤ 1000) : lim F 84 [.agg [iv n, iv d], iv p, iv r] = some (iv (longR n d p r), []) := by
 have ha := h.a;have hb := h.b h0 h1;have hl := h.l h0 h1;have e : Int.tdiv (p * n * (1000 - r)) (d * 1000) = longR n d p r := Int.tdiv_eq_ediv_of_nonneg hb.1;obtain ⟨n0, n1, d0, d1, p0, p1⟩ := h;refine lim_by (fn := a84) (k := 3) (res := [.tmp 6]) rfl rfl rfl (by simp -implicitDefEqProofs (maxSteps := 2000000) (disch := first | exact tt_rfl rfl | omega | (simp only [go_sem] <;> omega) | fail) only [go_sem]) ?_
 try delta mvA
 try delta opA
 try delta tA
 simp -implicitDefEqProofs (maxSteps := 2000000) (disch := first | exact tt_rfl rfl | omega | (simp only [go_sem] <;> omega) | fail) only [go_sem]
 repeat (first | apply Wp.seqA | apply Wp.skipS | apply Wp.blockS | ((first | apply Wp.regS | apply Wp.condV | apply Wp.reg | apply Wp.condW | apply fin_ret); simp -implicitDefEqProofs (maxSteps := 2000000) (disch := first | exact tt_rfl rfl | omega | (simp only [go_sem] <;> omega) | fail) only [go_sem, e, show d * 1000 ≠ 0 by omega] <;> try with_reducible rfl) | apply Wp.block | apply Wp.exitS | apply Wp.retS | apply Wp.exit | apply Wp.ret | apply Wp.skip)
theorem isRelax_ok (a b : Int) : lim F 82 [.agg [iv a, iv b]] = some (.bool (decide (SpanOk a b 0 200)), []) := by
 have h := isSpan_ok a b 0 200;refine lim_by (fn := a82) (k := 1) (res := [.tmp 2]) rfl rfl rfl (by simp -implicitDefEqProofs (maxSteps := 2000000) (disch := first | exact tt_rfl rfl | omega | (simp only [go_sem] <;> omega) | fail) only [go_sem]) ?_
 try delta mvA
 try delta opA
 try delta tA
 simp -implicitDefEqProofs (maxSteps := 2000000) (disch := first | exact tt_rfl rfl | omega | (simp only [go_sem] <;> omega) | fail) only [go_sem]
 repeat (first | apply Wp.seqA | apply Wp.skipS | apply Wp.blockS | ((first | apply Wp.regS | apply Wp.condV | apply Wp.reg | apply Wp.condW | apply fin_ret); simp -implicitDefEqProofs (maxSteps := 2000000) (disch := first | exact tt_rfl rfl | omega | (simp only [go_sem] <;> omega) | fail) only [go_sem, h] <;> try with_reducible rfl) | apply Wp.block | apply Wp.exitS | apply Wp.retS | apply Wp.exit | apply Wp.ret | apply Wp.skip)
theorem tkR {t : TakeA} (h : checkT t = 0) {p : Int} (h0 : 0 ≤ p) (h1 : p ≤ 100000) : ROk (nT t) (dT t) p := by
 have nb := nT_bound h;exact ⟨nb.1.1, nb.1.2, nb.2.1, nb.2.2, h0, h1⟩
def longT (t : TakeA) (p r : Int) : Int := longR (nT t) (dT t) p r
def figE (t : TakeA) (a b p : Int) : Int := if checkT t = 0 then if SpanOk a b 0 200 then if 1 ≤ p ∧ p ≤ 100000 then 0 else 3 else 2 else checkT t
theorem Figure_ok (t : TakeA) (a b p : Int) : lim F 36 [t.av, .agg [iv a, iv b], iv p] = some (.tuple [.agg [iv (if figE t a b p = 0 then longT t p b else 0), iv (if figE t a b p = 0 then longT t p a else 0)], iv (figE t a b p)], []) := by
 have hc := Check_ok t;unfold figE;by_cases h : checkT t = 0
 ·rw [if_pos h]
  rw [h] at hc;have hr := isRelax_ok a b;by_cases hs : SpanOk a b 0 200
  ·rw [if_pos hs]
   rw [decide_eq_true hs] at hr;have hw := within_ok 1 100000 [p] (by simp)
   simp only [List.map_cons, List.map_nil, List.all_cons, List.all_nil, Bool.and_true] at hw;by_cases hp : 1 ≤ p ∧ p ≤ 100000
   ·rw [if_pos hp, if_pos rfl, if_pos rfl]
    have ht := taken_ok t h;have g1 := long_ok (nT t) (dT t) p b (tkR h (by omega) (by omega)) (by omega) (by omega)
    have g2 := long_ok (nT t) (dT t) p a (tkR h (by omega) (by omega)) (by omega) (by omega)
    change _ = some (iv (longT t p b), []) at g1;change _ = some (iv (longT t p a), []) at g2;unfold TakeA.av at hc ht ⊢;unfold takeV at ht;refine lim_by (fn := a36) (k := 3) (res := [.cell 6 2 true, .tmp 7]) rfl rfl rfl (by simp -implicitDefEqProofs (maxSteps := 2000000) (disch := first | exact tt_rfl rfl | omega | (simp only [go_sem] <;> omega) | fail) only [go_sem]) ?_
    try delta mvA
    try delta opA
    try delta tA
    simp -implicitDefEqProofs (maxSteps := 2000000) (disch := first | exact tt_rfl rfl | omega | (simp only [go_sem] <;> omega) | fail) only [go_sem]
    repeat (first | apply Wp.seqA | apply Wp.skipS | apply Wp.blockS | ((first | apply Wp.regS | apply Wp.condV | apply Wp.reg | apply Wp.condW | apply fin_ret); simp -implicitDefEqProofs (maxSteps := 2000000) (disch := first | exact tt_rfl rfl | omega | (simp only [go_sem] <;> omega) | fail) only [go_sem, hc, hr, hw, hp, ht, g1, g2] <;> try with_reducible rfl) | apply Wp.block | apply Wp.exitS | apply Wp.retS | apply Wp.exit | apply Wp.ret | apply Wp.skip)
   ·rw [if_neg hp, if_neg (by omega), if_neg (by omega)]
    unfold TakeA.av at hc ⊢;refine lim_by (fn := a36) (k := 3) (res := [.cell 6 2 true, .tmp 7]) rfl rfl rfl (by simp -implicitDefEqProofs (maxSteps := 2000000) (disch := first | exact tt_rfl rfl | omega | (simp only [go_sem] <;> omega) | fail) only [go_sem]) ?_
    try delta mvA
    try delta opA
    try delta tA
    simp -implicitDefEqProofs (maxSteps := 2000000) (disch := first | exact tt_rfl rfl | omega | (simp only [go_sem] <;> omega) | fail) only [go_sem]
    repeat (first | apply Wp.seqA | apply Wp.skipS | apply Wp.blockS | ((first | apply Wp.regS | apply Wp.condV | apply Wp.reg | apply Wp.condW | apply fin_ret); simp -implicitDefEqProofs (maxSteps := 2000000) (disch := first | exact tt_rfl rfl | omega | (simp only [go_sem] <;> omega) | fail) only [go_sem, hc, hr, hw, hp] <;> try with_reducible rfl) | apply Wp.block | apply Wp.exitS | apply Wp.retS | apply Wp.exit | apply Wp.ret | apply Wp.skip)
  ·rw [if_neg hs, if_neg (by omega), if_neg (by omega)]
   rw [decide_eq_false hs] at hr;unfold TakeA.av at hc ⊢;refine lim_by (fn := a36) (k := 3) (res := [.cell 6 2 true, .tmp 7]) rfl rfl rfl (by simp -implicitDefEqProofs (maxSteps := 2000000) (disch := first | exact tt_rfl rfl | omega | (simp only [go_sem] <;> omega) | fail) only [go_sem]) ?_
   try delta mvA
   try delta opA
   try delta tA
   simp -implicitDefEqProofs (maxSteps := 2000000) (disch := first | exact tt_rfl rfl | omega | (simp only [go_sem] <;> omega) | fail) only [go_sem]
   repeat (first | apply Wp.seqA | apply Wp.skipS | apply Wp.blockS | ((first | apply Wp.regS | apply Wp.condV | apply Wp.reg | apply Wp.condW | apply fin_ret); simp -implicitDefEqProofs (maxSteps := 2000000) (disch := first | exact tt_rfl rfl | omega | (simp only [go_sem] <;> omega) | fail) only [go_sem, hc, hr] <;> try with_reducible rfl) | apply Wp.block | apply Wp.exitS | apply Wp.retS | apply Wp.exit | apply Wp.ret | apply Wp.skip)
 ·rw [if_neg h, if_neg h, if_neg h]
  generalize checkT t = c at hc h;unfold TakeA.av at hc ⊢;refine lim_by (fn := a36) (k := 3) (res := [.cell 6 2 true, .tmp 7]) rfl rfl rfl (by simp -implicitDefEqProofs (maxSteps := 2000000) (disch := first | exact tt_rfl rfl | omega | (simp only [go_sem] <;> omega) | fail) only [go_sem]) ?_
  try delta mvA
  try delta opA
  try delta tA
  simp -implicitDefEqProofs (maxSteps := 2000000) (disch := first | exact tt_rfl rfl | omega | (simp only [go_sem] <;> omega) | fail) only [go_sem]
  repeat (first | apply Wp.seqA | apply Wp.skipS | apply Wp.blockS | ((first | apply Wp.regS | apply Wp.condV | apply Wp.reg | apply Wp.condW | apply fin_ret); simp -implicitDefEqProofs (maxSteps := 2000000) (disch := first | exact tt_rfl rfl | omega | (simp only [go_sem] <;> omega) | fail) only [go_sem, hc, h] <;> try with_reducible rfl) | apply Wp.block | apply Wp.exitS | apply Wp.retS | apply Wp.exit | apply Wp.ret | apply Wp.skip)
end Go.Abs.Beam
