/-
  Chapter 1: Mirror, Flip, Back and Shift. No condition beyond those that each theorem names.
-/
import Derived.Test.YthafpdlfdkddpaaV1
import Derived.Test.YthafpdlfdkddpaaL1
set_option linter.all false
namespace Go.Abs
set_option maxRecDepth 10000
set_option maxHeartbeats 4000000

theorem changed1_ok (d : DesN) (hd : d.Ok) (f : Nat) (x y z : AV) (P H : Nat → Nat → Nat) (hf : ∀ p h, p < d.rows.length → h < d.hk → lim F f [iv (p : Int), iv (h : Int), .iptr x 0] = some (.tuple [iv ((P p h : Nat) : Int), iv ((H p h : Nat) : Int)], []) ∧ P p h ≤ 1000 ∧ H p h ≤ 1000) :
    lim F 17 [d.av, .func f [.iptr x 0]] = some (.tuple [.agg [iv (d.hk : Int), .own 1 ((madeN (fun p h => atN d (P p h) (H p h)) d.rows.length d.hk).rows.map fun n : Nat => iv (n : Int))], iv 0], []) := by
  have h24 := hd.h24
  have h60 := hd.r60
  have hc := Check_ok d.a (by simp [DesN.a]; omega)
  rw [checkD_ok hd, DesN.a_av] at hc
  have hN : Value.nilFunc.oneCell' = true := rfl
  have hA : ∀ p h, p < d.rows.length → h < d.hk → lim F 35 [iv (p : Int), iv (h : Int), .iptr (.agg [iv (d.hk : Int), .list 1 (d.rows.map fun n : Nat => iv (n : Int))]) 0, .iptr (.agg [.func f [.iptr x 0]]) 0] = some (.bool (atN d (P p h) (H p h)), []) := by
    intro p h hp hh
    obtain ⟨h1, h2, h3⟩ := hf p h hp hh
    have ha := at_ok d hd (P p h) (H p h) (by omega) (by omega)
    unfold DesN.av at ha
    generalize d.rows.map (fun n : Nat => iv (n : Int)) = rs at *
    generalize P p h = pp at *
    generalize H p h = hh' at *
    generalize atN d pp hh' = b at *
    refine lim_by (fn := a35) (k := 4) (res := [.tmp 6]) rfl rfl rfl (by simp -implicitDefEqProofs (maxSteps := 2000000) (disch := first | exact tt_rfl rfl | omega | (simp only [go_sem] <;> omega) | fail) only [go_sem]) ?_
    try delta mvA
    try delta opA
    try delta tA
    simp -implicitDefEqProofs (maxSteps := 2000000) (disch := first | exact tt_rfl rfl | omega | (simp only [go_sem] <;> omega) | fail) only [go_sem]
    repeat (first | apply Wp.seqA | apply Wp.skipS | apply Wp.blockS | ((first | apply Wp.regS | apply Wp.condV | apply Wp.reg | apply Wp.condW | apply fin_ret); simp -implicitDefEqProofs (maxSteps := 2000000) (disch := first | exact tt_rfl rfl | omega | (simp only [go_sem] <;> omega) | fail) only [go_sem, h1, ha] <;> try with_reducible rfl) | apply Wp.block | apply Wp.exitS | apply Wp.retS | apply Wp.exit | apply Wp.ret | apply Wp.skip)
  have hM := made2_ok d.rows.length d.hk 35 (.agg [iv (d.hk : Int), .list 1 (d.rows.map fun n : Nat => iv (n : Int))]) (.agg [.func f [.iptr x 0]]) (fun p h => atN d (P p h) (H p h)) (by omega) (by omega) hA
  have hpl := nat_plain (madeN (fun p h => atN d (P p h) (H p h)) d.rows.length d.hk).rows
  have hln : ((madeN (fun p h => atN d (P p h) (H p h)) d.rows.length d.hk).rows.map fun n : Nat => iv (n : Int)).length = d.rows.length := by simp [madeN]
  have hln2 : (d.rows.map fun n : Nat => iv (n : Int)).length = d.rows.length := by simp
  unfold DesN.av at *
  generalize (madeN (fun p h => atN d (P p h) (H p h)) d.rows.length d.hk).rows.map (fun n : Nat => iv (n : Int)) = es at *
  generalize d.rows.map (fun n : Nat => iv (n : Int)) = rs at *
  refine lim_by (fn := a17) (k := 2) (res := [.cell 4 2 true, .tmp 5]) rfl rfl rfl (by simp -implicitDefEqProofs (maxSteps := 2000000) (disch := first | exact tt_rfl rfl | omega | (simp only [go_sem] <;> omega) | fail) only [go_sem]) ?_
  try delta mvA
  try delta opA
  try delta tA
  simp -implicitDefEqProofs (maxSteps := 2000000) (disch := first | exact tt_rfl rfl | omega | (simp only [go_sem] <;> omega) | fail) only [go_sem]
  repeat (first | apply Wp.seqA | apply Wp.skipS | apply Wp.blockS | ((first | apply Wp.regS | apply Wp.condV | apply Wp.reg | apply Wp.condW | apply fin_ret); simp -implicitDefEqProofs (maxSteps := 2000000) (disch := first | exact tt_rfl rfl | omega | (simp only [go_sem] <;> omega) | fail) only [go_sem, hc, hM, hN, hpl, hln, hln2] <;> try with_reducible rfl) | apply Wp.block | apply Wp.exitS | apply Wp.retS | apply Wp.exit | apply Wp.ret | apply Wp.skip)

theorem changed3_ok (d : DesN) (hd : d.Ok) (f : Nat) (x y z : AV) (P H : Nat → Nat → Nat) (hf : ∀ p h, p < d.rows.length → h < d.hk → lim F f [iv (p : Int), iv (h : Int), .iptr x 0, .iptr y 0, .iptr z 0] = some (.tuple [iv ((P p h : Nat) : Int), iv ((H p h : Nat) : Int)], []) ∧ P p h ≤ 1000 ∧ H p h ≤ 1000) :
    lim F 17 [d.av, .func f [.iptr x 0, .iptr y 0, .iptr z 0]] = some (.tuple [.agg [iv (d.hk : Int), .own 1 ((madeN (fun p h => atN d (P p h) (H p h)) d.rows.length d.hk).rows.map fun n : Nat => iv (n : Int))], iv 0], []) := by
  have h24 := hd.h24
  have h60 := hd.r60
  have hc := Check_ok d.a (by simp [DesN.a]; omega)
  rw [checkD_ok hd, DesN.a_av] at hc
  have hN : Value.nilFunc.oneCell' = true := rfl
  have hA : ∀ p h, p < d.rows.length → h < d.hk → lim F 35 [iv (p : Int), iv (h : Int), .iptr (.agg [iv (d.hk : Int), .list 1 (d.rows.map fun n : Nat => iv (n : Int))]) 0, .iptr (.agg [.func f [.iptr x 0, .iptr y 0, .iptr z 0]]) 0] = some (.bool (atN d (P p h) (H p h)), []) := by
    intro p h hp hh
    obtain ⟨h1, h2, h3⟩ := hf p h hp hh
    have ha := at_ok d hd (P p h) (H p h) (by omega) (by omega)
    unfold DesN.av at ha
    generalize d.rows.map (fun n : Nat => iv (n : Int)) = rs at *
    generalize P p h = pp at *
    generalize H p h = hh' at *
    generalize atN d pp hh' = b at *
    refine lim_by (fn := a35) (k := 4) (res := [.tmp 6]) rfl rfl rfl (by simp -implicitDefEqProofs (maxSteps := 2000000) (disch := first | exact tt_rfl rfl | omega | (simp only [go_sem] <;> omega) | fail) only [go_sem]) ?_
    try delta mvA
    try delta opA
    try delta tA
    simp -implicitDefEqProofs (maxSteps := 2000000) (disch := first | exact tt_rfl rfl | omega | (simp only [go_sem] <;> omega) | fail) only [go_sem]
    repeat (first | apply Wp.seqA | apply Wp.skipS | apply Wp.blockS | ((first | apply Wp.regS | apply Wp.condV | apply Wp.reg | apply Wp.condW | apply fin_ret); simp -implicitDefEqProofs (maxSteps := 2000000) (disch := first | exact tt_rfl rfl | omega | (simp only [go_sem] <;> omega) | fail) only [go_sem, h1, ha] <;> try with_reducible rfl) | apply Wp.block | apply Wp.exitS | apply Wp.retS | apply Wp.exit | apply Wp.ret | apply Wp.skip)
  have hM := made2_ok d.rows.length d.hk 35 (.agg [iv (d.hk : Int), .list 1 (d.rows.map fun n : Nat => iv (n : Int))]) (.agg [.func f [.iptr x 0, .iptr y 0, .iptr z 0]]) (fun p h => atN d (P p h) (H p h)) (by omega) (by omega) hA
  have hpl := nat_plain (madeN (fun p h => atN d (P p h) (H p h)) d.rows.length d.hk).rows
  have hln : ((madeN (fun p h => atN d (P p h) (H p h)) d.rows.length d.hk).rows.map fun n : Nat => iv (n : Int)).length = d.rows.length := by simp [madeN]
  have hln2 : (d.rows.map fun n : Nat => iv (n : Int)).length = d.rows.length := by simp
  unfold DesN.av at *
  generalize (madeN (fun p h => atN d (P p h) (H p h)) d.rows.length d.hk).rows.map (fun n : Nat => iv (n : Int)) = es at *
  generalize d.rows.map (fun n : Nat => iv (n : Int)) = rs at *
  refine lim_by (fn := a17) (k := 2) (res := [.cell 4 2 true, .tmp 5]) rfl rfl rfl (by simp -implicitDefEqProofs (maxSteps := 2000000) (disch := first | exact tt_rfl rfl | omega | (simp only [go_sem] <;> omega) | fail) only [go_sem]) ?_
  try delta mvA
  try delta opA
  try delta tA
  simp -implicitDefEqProofs (maxSteps := 2000000) (disch := first | exact tt_rfl rfl | omega | (simp only [go_sem] <;> omega) | fail) only [go_sem]
  repeat (first | apply Wp.seqA | apply Wp.skipS | apply Wp.blockS | ((first | apply Wp.regS | apply Wp.condV | apply Wp.reg | apply Wp.condW | apply fin_ret); simp -implicitDefEqProofs (maxSteps := 2000000) (disch := first | exact tt_rfl rfl | omega | (simp only [go_sem] <;> omega) | fail) only [go_sem, hc, hM, hN, hpl, hln, hln2] <;> try with_reducible rfl) | apply Wp.block | apply Wp.exitS | apply Wp.retS | apply Wp.exit | apply Wp.ret | apply Wp.skip)

theorem changed1_bad (d : DesA) (hl : d.rows.length ≤ 1000000) (hd : checkD d ≠ 0) (f : Nat) (x : AV) : lim F 17 [d.av, .func f [.iptr x 0]] = some (.tuple [.agg [iv 0, .own 1 []], iv (checkD d)], []) := by
  have hc := Check_ok d hl
  have hN : Value.nilFunc.oneCell' = true := rfl
  unfold DesA.av at *
  generalize checkD d = c at *
  refine lim_by (fn := a17) (k := 2) (res := [.cell 4 2 true, .tmp 5]) rfl rfl rfl (by simp -implicitDefEqProofs (maxSteps := 2000000) (disch := first | exact tt_rfl rfl | omega | (simp only [go_sem] <;> omega) | fail) only [go_sem]) ?_
  try delta mvA
  try delta opA
  try delta tA
  simp -implicitDefEqProofs (maxSteps := 2000000) (disch := first | exact tt_rfl rfl | omega | (simp only [go_sem] <;> omega) | fail) only [go_sem]
  repeat (first | apply Wp.seqA | apply Wp.skipS | apply Wp.blockS | ((first | apply Wp.regS | apply Wp.condV | apply Wp.reg | apply Wp.condW | apply fin_ret); simp -implicitDefEqProofs (maxSteps := 2000000) (disch := first | exact tt_rfl rfl | omega | (simp only [go_sem] <;> omega) | fail) only [go_sem, hc, hd, hN] <;> try with_reducible rfl) | apply Wp.block | apply Wp.exitS | apply Wp.retS | apply Wp.exit | apply Wp.ret | apply Wp.skip)

def mirrorN (d : DesN) : DesN := madeN (fun p h => atN d p (d.hk - 1 - h)) d.rows.length d.hk
def flipN (d : DesN) : DesN := madeN (fun p h => atN d (d.rows.length - 1 - p) h) d.rows.length d.hk
def backN (d : DesN) : DesN := madeN (fun p h => !atN d p h) d.rows.length d.hk
def shiftN (d : DesN) (a b : Nat) : DesN := madeN (fun p h => atN d (p + d.rows.length - a) (h + d.hk - b)) d.rows.length d.hk
/-- a design that was made, handed over -/
def DesN.out (d : DesN) : AV := .agg [iv (d.hk : Int), .own 1 (d.rows.map fun n : Nat => iv (n : Int))]

theorem mirrorA_ok (d : DesN) (hd : d.Ok) (p h : Nat) (hp : p < d.rows.length) (hh : h < d.hk) : lim F 19 [iv (p : Int), iv (h : Int), d.cap] = some (.tuple [iv (p : Int), iv ((d.hk - 1 - h : Nat) : Int)], []) := by
  have h24 := hd.h24
  have e : (d.hk : Int) - 1 - (h : Int) = ((d.hk - 1 - h : Nat) : Int) := by omega
  unfold DesN.cap
  generalize d.rows.map (fun n : Nat => iv (n : Int)) = rs at *
  refine lim_by (fn := a19) (k := 3) (res := [.tmp 5, .tmp 6]) rfl rfl rfl (by simp -implicitDefEqProofs (maxSteps := 2000000) (disch := first | exact tt_rfl rfl | omega | (simp only [go_sem] <;> omega) | fail) only [go_sem]) ?_
  try delta mvA
  try delta opA
  try delta tA
  simp -implicitDefEqProofs (maxSteps := 2000000) (disch := first | exact tt_rfl rfl | omega | (simp only [go_sem] <;> omega) | fail) only [go_sem]
  repeat (first | apply Wp.seqA | apply Wp.skipS | apply Wp.blockS | ((first | apply Wp.regS | apply Wp.condV | apply Wp.reg | apply Wp.condW | apply fin_ret); simp -implicitDefEqProofs (maxSteps := 2000000) (disch := first | exact tt_rfl rfl | omega | (simp only [go_sem] <;> omega) | fail) only [go_sem, e] <;> try with_reducible rfl) | apply Wp.block | apply Wp.exitS | apply Wp.retS | apply Wp.exit | apply Wp.ret | apply Wp.skip)
theorem flipA_ok (d : DesN) (hd : d.Ok) (p h : Nat) (hp : p < d.rows.length) (hh : h < d.hk) : lim F 18 [iv (p : Int), iv (h : Int), d.cap] = some (.tuple [iv ((d.rows.length - 1 - p : Nat) : Int), iv (h : Int)], []) := by
  have h60 := hd.r60
  have e : (d.rows.length : Int) - 1 - (p : Int) = ((d.rows.length - 1 - p : Nat) : Int) := by omega
  have hln2 : (d.rows.map fun n : Nat => iv (n : Int)).length = d.rows.length := by simp
  unfold DesN.cap
  generalize d.rows.map (fun n : Nat => iv (n : Int)) = rs at *
  refine lim_by (fn := a18) (k := 3) (res := [.tmp 5, .tmp 6]) rfl rfl rfl (by simp -implicitDefEqProofs (maxSteps := 2000000) (disch := first | exact tt_rfl rfl | omega | (simp only [go_sem] <;> omega) | fail) only [go_sem]) ?_
  try delta mvA
  try delta opA
  try delta tA
  simp -implicitDefEqProofs (maxSteps := 2000000) (disch := first | exact tt_rfl rfl | omega | (simp only [go_sem] <;> omega) | fail) only [go_sem]
  repeat (first | apply Wp.seqA | apply Wp.skipS | apply Wp.blockS | ((first | apply Wp.regS | apply Wp.condV | apply Wp.reg | apply Wp.condW | apply fin_ret); simp -implicitDefEqProofs (maxSteps := 2000000) (disch := first | exact tt_rfl rfl | omega | (simp only [go_sem] <;> omega) | fail) only [go_sem, e, hln2] <;> try with_reducible rfl) | apply Wp.block | apply Wp.exitS | apply Wp.retS | apply Wp.exit | apply Wp.ret | apply Wp.skip)
theorem shiftA_ok (d : DesN) (hd : d.Ok) (p h a b : Nat) (hp : p < d.rows.length) (hh : h < d.hk) (ha : a < d.rows.length) (hb : b < d.hk) : lim F 47 [iv (p : Int), iv (h : Int), d.cap, .iptr (.agg [iv (a : Int)]) 0, .iptr (.agg [iv (b : Int)]) 0] = some (.tuple [iv ((p + d.rows.length - a : Nat) : Int), iv ((h + d.hk - b : Nat) : Int)], []) := by
  have h60 := hd.r60
  have h24 := hd.h24
  have e : (p : Int) + (d.rows.length : Int) - (a : Int) = ((p + d.rows.length - a : Nat) : Int) := by omega
  have e2 : (h : Int) + (d.hk : Int) - (b : Int) = ((h + d.hk - b : Nat) : Int) := by omega
  have hln2 : (d.rows.map fun n : Nat => iv (n : Int)).length = d.rows.length := by simp
  unfold DesN.cap
  generalize d.rows.map (fun n : Nat => iv (n : Int)) = rs at *
  refine lim_by (fn := a47) (k := 5) (res := [.tmp 7, .tmp 8]) rfl rfl rfl (by simp -implicitDefEqProofs (maxSteps := 2000000) (disch := first | exact tt_rfl rfl | omega | (simp only [go_sem] <;> omega) | fail) only [go_sem]) ?_
  try delta mvA
  try delta opA
  try delta tA
  simp -implicitDefEqProofs (maxSteps := 2000000) (disch := first | exact tt_rfl rfl | omega | (simp only [go_sem] <;> omega) | fail) only [go_sem]
  repeat (first | apply Wp.seqA | apply Wp.skipS | apply Wp.blockS | ((first | apply Wp.regS | apply Wp.condV | apply Wp.reg | apply Wp.condW | apply fin_ret); simp -implicitDefEqProofs (maxSteps := 2000000) (disch := first | exact tt_rfl rfl | omega | (simp only [go_sem] <;> omega) | fail) only [go_sem, e, e2, hln2] <;> try with_reducible rfl) | apply Wp.block | apply Wp.exitS | apply Wp.retS | apply Wp.exit | apply Wp.ret | apply Wp.skip)
theorem Mirror_ok (d : DesN) (hd : d.Ok) : lim F 10 [d.av] = some (.tuple [(mirrorN d).out, iv 0], []) := by
  have h24 := hd.h24
  have h60 := hd.r60
  have h := changed1_ok d hd 19 (.agg [iv (d.hk : Int), .list 1 (d.rows.map fun n : Nat => iv (n : Int))]) (iv 0) (iv 0) (fun p _ => p) (fun _ h => d.hk - 1 - h) (fun p h hp hh => ⟨mirrorA_ok d hd p h hp hh, by omega, by omega⟩)
  change lim F _ _ = some (AV.tuple [.agg [iv (d.hk : Int), .own 1 ((mirrorN d).rows.map fun n : Nat => iv (n : Int))], iv 0], []) at h
  change _ = some (AV.tuple [.agg [iv (d.hk : Int), .own 1 ((mirrorN d).rows.map fun n : Nat => iv (n : Int))], iv 0], [])
  unfold DesN.av at *
  have hpl := nat_plain (mirrorN d).rows
  have hln : ((mirrorN d).rows.map fun n : Nat => iv (n : Int)).length = d.rows.length := by simp [mirrorN, madeN]
  generalize (mirrorN d).rows.map (fun n : Nat => iv (n : Int)) = es at *
  generalize d.rows.map (fun n : Nat => iv (n : Int)) = rs at *
  refine lim_by (fn := a10) (k := 1) (res := [.cell 2 2 true, .tmp 3]) rfl rfl rfl (by simp -implicitDefEqProofs (maxSteps := 2000000) (disch := first | exact tt_rfl rfl | omega | (simp only [go_sem] <;> omega) | fail) only [go_sem]) ?_
  try delta mvA
  try delta opA
  try delta tA
  simp -implicitDefEqProofs (maxSteps := 2000000) (disch := first | exact tt_rfl rfl | omega | (simp only [go_sem] <;> omega) | fail) only [go_sem]
  repeat (first | apply Wp.seqA | apply Wp.skipS | apply Wp.blockS | ((first | apply Wp.regS | apply Wp.condV | apply Wp.reg | apply Wp.condW | apply fin_ret); simp -implicitDefEqProofs (maxSteps := 2000000) (disch := first | exact tt_rfl rfl | omega | (simp only [go_sem] <;> omega) | fail) only [go_sem, h, hpl, hln] <;> try with_reducible rfl) | apply Wp.block | apply Wp.exitS | apply Wp.retS | apply Wp.exit | apply Wp.ret | apply Wp.skip)
theorem Flip_ok (d : DesN) (hd : d.Ok) : lim F 9 [d.av] = some (.tuple [(flipN d).out, iv 0], []) := by
  have h24 := hd.h24
  have h60 := hd.r60
  have h := changed1_ok d hd 18 (.agg [iv (d.hk : Int), .list 1 (d.rows.map fun n : Nat => iv (n : Int))]) (iv 0) (iv 0) (fun p _ => d.rows.length - 1 - p) (fun _ h => h) (fun p h hp hh => ⟨flipA_ok d hd p h hp hh, by omega, by omega⟩)
  change lim F _ _ = some (AV.tuple [.agg [iv (d.hk : Int), .own 1 ((flipN d).rows.map fun n : Nat => iv (n : Int))], iv 0], []) at h
  change _ = some (AV.tuple [.agg [iv (d.hk : Int), .own 1 ((flipN d).rows.map fun n : Nat => iv (n : Int))], iv 0], [])
  unfold DesN.av at *
  have hpl := nat_plain (flipN d).rows
  have hln : ((flipN d).rows.map fun n : Nat => iv (n : Int)).length = d.rows.length := by simp [flipN, madeN]
  generalize (flipN d).rows.map (fun n : Nat => iv (n : Int)) = es at *
  generalize d.rows.map (fun n : Nat => iv (n : Int)) = rs at *
  refine lim_by (fn := a9) (k := 1) (res := [.cell 2 2 true, .tmp 3]) rfl rfl rfl (by simp -implicitDefEqProofs (maxSteps := 2000000) (disch := first | exact tt_rfl rfl | omega | (simp only [go_sem] <;> omega) | fail) only [go_sem]) ?_
  try delta mvA
  try delta opA
  try delta tA
  simp -implicitDefEqProofs (maxSteps := 2000000) (disch := first | exact tt_rfl rfl | omega | (simp only [go_sem] <;> omega) | fail) only [go_sem]
  repeat (first | apply Wp.seqA | apply Wp.skipS | apply Wp.blockS | ((first | apply Wp.regS | apply Wp.condV | apply Wp.reg | apply Wp.condW | apply fin_ret); simp -implicitDefEqProofs (maxSteps := 2000000) (disch := first | exact tt_rfl rfl | omega | (simp only [go_sem] <;> omega) | fail) only [go_sem, h, hpl, hln] <;> try with_reducible rfl) | apply Wp.block | apply Wp.exitS | apply Wp.retS | apply Wp.exit | apply Wp.ret | apply Wp.skip)
theorem Shift_ok (d : DesN) (hd : d.Ok) (a b : Nat) (ha : a < d.rows.length) (hb : b < d.hk) : lim F 27 [d.av, iv (a : Int), iv (b : Int)] = some (.tuple [(shiftN d a b).out, iv 0], []) := by
  have h24 := hd.h24
  have h60 := hd.r60
  have hc := Check_ok d.a (by simp [DesN.a]; omega)
  rw [checkD_ok hd, DesN.a_av] at hc
  have w1 := within_one 0 ((d.rows.length : Int) - 1) (a : Int)
  have w2 := within_one 0 ((d.hk : Int) - 1) (b : Int)
  rw [decide_eq_true (by omega)] at w1 w2
  have h := changed3_ok d hd 47 (.agg [iv (d.hk : Int), .list 1 (d.rows.map fun n : Nat => iv (n : Int))]) (.agg [iv (a : Int)]) (.agg [iv (b : Int)]) (fun p _ => p + d.rows.length - a) (fun _ h => h + d.hk - b) (fun p h hp hh => ⟨shiftA_ok d hd p h a b hp hh ha hb, by omega, by omega⟩)
  change lim F _ _ = some (AV.tuple [.agg [iv (d.hk : Int), .own 1 ((shiftN d a b).rows.map fun n : Nat => iv (n : Int))], iv 0], []) at h
  change _ = some (AV.tuple [.agg [iv (d.hk : Int), .own 1 ((shiftN d a b).rows.map fun n : Nat => iv (n : Int))], iv 0], [])
  unfold DesN.av at *
  have hpl := nat_plain (shiftN d a b).rows
  have hln : ((shiftN d a b).rows.map fun n : Nat => iv (n : Int)).length = d.rows.length := by simp [shiftN, madeN]
  have hln2 : (d.rows.map fun n : Nat => iv (n : Int)).length = d.rows.length := by simp
  generalize (shiftN d a b).rows.map (fun n : Nat => iv (n : Int)) = es at *
  generalize d.rows.map (fun n : Nat => iv (n : Int)) = rs at *
  refine lim_by (fn := a27) (k := 3) (res := [.cell 6 2 true, .tmp 7]) rfl rfl rfl (by simp -implicitDefEqProofs (maxSteps := 2000000) (disch := first | exact tt_rfl rfl | omega | (simp only [go_sem] <;> omega) | fail) only [go_sem]) ?_
  try delta mvA
  try delta opA
  try delta tA
  simp -implicitDefEqProofs (maxSteps := 2000000) (disch := first | exact tt_rfl rfl | omega | (simp only [go_sem] <;> omega) | fail) only [go_sem]
  repeat (first | apply Wp.seqA | apply Wp.skipS | apply Wp.blockS | ((first | apply Wp.regS | apply Wp.condV | apply Wp.reg | apply Wp.condW | apply fin_ret); simp -implicitDefEqProofs (maxSteps := 2000000) (disch := first | exact tt_rfl rfl | omega | (simp only [go_sem] <;> omega) | fail) only [go_sem, hc, w1, w2, h, hpl, hln, hln2] <;> try with_reducible rfl) | apply Wp.block | apply Wp.exitS | apply Wp.retS | apply Wp.exit | apply Wp.ret | apply Wp.skip)
theorem Mirror_bad (d : DesA) (hl : d.rows.length ≤ 1000000) (hd : checkD d ≠ 0) : lim F 10 [d.av] = some (.tuple [.agg [iv 0, .own 1 []], iv (checkD d)], []) := by
  have h := changed1_bad d hl hd 19 (.agg [iv d.hk, .list 1 (d.rows.map fun n => iv n)])
  unfold DesA.av at *
  generalize checkD d = c at *
  generalize d.rows.map (fun n => iv n) = rs at *
  refine lim_by (fn := a10) (k := 1) (res := [.cell 2 2 true, .tmp 3]) rfl rfl rfl (by simp -implicitDefEqProofs (maxSteps := 2000000) (disch := first | exact tt_rfl rfl | omega | (simp only [go_sem] <;> omega) | fail) only [go_sem]) ?_
  try delta mvA
  try delta opA
  try delta tA
  simp -implicitDefEqProofs (maxSteps := 2000000) (disch := first | exact tt_rfl rfl | omega | (simp only [go_sem] <;> omega) | fail) only [go_sem]
  repeat (first | apply Wp.seqA | apply Wp.skipS | apply Wp.blockS | ((first | apply Wp.regS | apply Wp.condV | apply Wp.reg | apply Wp.condW | apply fin_ret); simp -implicitDefEqProofs (maxSteps := 2000000) (disch := first | exact tt_rfl rfl | omega | (simp only [go_sem] <;> omega) | fail) only [go_sem, h] <;> try with_reducible rfl) | apply Wp.block | apply Wp.exitS | apply Wp.retS | apply Wp.exit | apply Wp.ret | apply Wp.skip)
theorem Flip_bad (d : DesA) (hl : d.rows.length ≤ 1000000) (hd : checkD d ≠ 0) : lim F 9 [d.av] = some (.tuple [.agg [iv 0, .own 1 []], iv (checkD d)], []) := by
  have h := changed1_bad d hl hd 18 (.agg [iv d.hk, .list 1 (d.rows.map fun n => iv n)])
  unfold DesA.av at *
  generalize checkD d = c at *
  generalize d.rows.map (fun n => iv n) = rs at *
  refine lim_by (fn := a9) (k := 1) (res := [.cell 2 2 true, .tmp 3]) rfl rfl rfl (by simp -implicitDefEqProofs (maxSteps := 2000000) (disch := first | exact tt_rfl rfl | omega | (simp only [go_sem] <;> omega) | fail) only [go_sem]) ?_
  try delta mvA
  try delta opA
  try delta tA
  simp -implicitDefEqProofs (maxSteps := 2000000) (disch := first | exact tt_rfl rfl | omega | (simp only [go_sem] <;> omega) | fail) only [go_sem]
  repeat (first | apply Wp.seqA | apply Wp.skipS | apply Wp.blockS | ((first | apply Wp.regS | apply Wp.condV | apply Wp.reg | apply Wp.condW | apply fin_ret); simp -implicitDefEqProofs (maxSteps := 2000000) (disch := first | exact tt_rfl rfl | omega | (simp only [go_sem] <;> omega) | fail) only [go_sem, h] <;> try with_reducible rfl) | apply Wp.block | apply Wp.exitS | apply Wp.retS | apply Wp.exit | apply Wp.ret | apply Wp.skip)
theorem Shift_bad (d : DesA) (hl : d.rows.length ≤ 1000000) (hd : checkD d ≠ 0) (a b : Int) : lim F 27 [d.av, iv a, iv b] = some (.tuple [.agg [iv 0, .own 1 []], iv (checkD d)], []) := by
  have hc := Check_ok d hl
  unfold DesA.av at *
  generalize checkD d = c at *
  generalize d.rows.map (fun n => iv n) = rs at *
  refine lim_by (fn := a27) (k := 3) (res := [.cell 6 2 true, .tmp 7]) rfl rfl rfl (by simp -implicitDefEqProofs (maxSteps := 2000000) (disch := first | exact tt_rfl rfl | omega | (simp only [go_sem] <;> omega) | fail) only [go_sem]) ?_
  try delta mvA
  try delta opA
  try delta tA
  simp -implicitDefEqProofs (maxSteps := 2000000) (disch := first | exact tt_rfl rfl | omega | (simp only [go_sem] <;> omega) | fail) only [go_sem]
  repeat (first | apply Wp.seqA | apply Wp.skipS | apply Wp.blockS | ((first | apply Wp.regS | apply Wp.condV | apply Wp.reg | apply Wp.condW | apply fin_ret); simp -implicitDefEqProofs (maxSteps := 2000000) (disch := first | exact tt_rfl rfl | omega | (simp only [go_sem] <;> omega) | fail) only [go_sem, hc, hd] <;> try with_reducible rfl) | apply Wp.block | apply Wp.exitS | apply Wp.retS | apply Wp.exit | apply Wp.ret | apply Wp.skip)
theorem Shift_range (d : DesN) (hd : d.Ok) (a b : Int) (h : ¬ ((0 ≤ a ∧ a ≤ (d.rows.length : Int) - 1) ∧ (0 ≤ b ∧ b ≤ (d.hk : Int) - 1))) : lim F 27 [d.av, iv a, iv b] = some (.tuple [.agg [iv 0, .own 1 []], iv 3], []) := by
  have h24 := hd.h24
  have h60 := hd.r60
  have hc := Check_ok d.a (by simp [DesN.a]; omega)
  rw [checkD_ok hd, DesN.a_av] at hc
  have w1 := within_one 0 ((d.rows.length : Int) - 1) a
  have w2 := within_one 0 ((d.hk : Int) - 1) b
  have hln2 : (d.rows.map fun n : Nat => iv (n : Int)).length = d.rows.length := by simp
  unfold DesN.av at *
  generalize d.rows.map (fun n : Nat => iv (n : Int)) = rs at *
  by_cases h1 : 0 ≤ a ∧ a ≤ (d.rows.length : Int) - 1
  · have h2 : ¬ (0 ≤ b ∧ b ≤ (d.hk : Int) - 1) := fun h2 => h ⟨h1, h2⟩
    rw [decide_eq_true h1] at w1
    rw [decide_eq_false h2] at w2
    refine lim_by (fn := a27) (k := 3) (res := [.cell 6 2 true, .tmp 7]) rfl rfl rfl (by simp -implicitDefEqProofs (maxSteps := 2000000) (disch := first | exact tt_rfl rfl | omega | (simp only [go_sem] <;> omega) | fail) only [go_sem]) ?_
    try delta mvA
    try delta opA
    try delta tA
    simp -implicitDefEqProofs (maxSteps := 2000000) (disch := first | exact tt_rfl rfl | omega | (simp only [go_sem] <;> omega) | fail) only [go_sem]
    repeat (first | apply Wp.seqA | apply Wp.skipS | apply Wp.blockS | ((first | apply Wp.regS | apply Wp.condV | apply Wp.reg | apply Wp.condW | apply fin_ret); simp -implicitDefEqProofs (maxSteps := 2000000) (disch := first | exact tt_rfl rfl | omega | (simp only [go_sem] <;> omega) | fail) only [go_sem, hc, w1, w2, hln2] <;> try with_reducible rfl) | apply Wp.block | apply Wp.exitS | apply Wp.retS | apply Wp.exit | apply Wp.ret | apply Wp.skip)
  · rw [decide_eq_false h1] at w1
    refine lim_by (fn := a27) (k := 3) (res := [.cell 6 2 true, .tmp 7]) rfl rfl rfl (by simp -implicitDefEqProofs (maxSteps := 2000000) (disch := first | exact tt_rfl rfl | omega | (simp only [go_sem] <;> omega) | fail) only [go_sem]) ?_
    try delta mvA
    try delta opA
    try delta tA
    simp -implicitDefEqProofs (maxSteps := 2000000) (disch := first | exact tt_rfl rfl | omega | (simp only [go_sem] <;> omega) | fail) only [go_sem]
    repeat (first | apply Wp.seqA | apply Wp.skipS | apply Wp.blockS | ((first | apply Wp.regS | apply Wp.condV | apply Wp.reg | apply Wp.condW | apply fin_ret); simp -implicitDefEqProofs (maxSteps := 2000000) (disch := first | exact tt_rfl rfl | omega | (simp only [go_sem] <;> omega) | fail) only [go_sem, hc, w1, hln2] <;> try with_reducible rfl) | apply Wp.block | apply Wp.exitS | apply Wp.retS | apply Wp.exit | apply Wp.ret | apply Wp.skip)
end Go.Abs
