/-
 Chapter 1: Mirror, Flip, Back and Shift. No condition beyond those that each theorem names.
-/
import Derived.Test.YthafpdlfdkddpaaDoorV1
import Derived.Test.YthafpdlfdkddpaaDoorL1
set_option linter.all false
namespace Go.Abs
set_option maxRecDepth 10000
set_option maxHeartbeats 4000000

theorem changed1_ok (d : DesN) (hd : d.Ok) (f : Nat) (x y z : AV) (P H : Nat → Nat → Nat) (hf : ∀ p h, p < d.rows.length → h < d.hk → lim F f [iv (p : Int), iv (h : Int), .iptr x 0] = some (.tuple [iv ((P p h : Nat) : Int), iv ((H p h : Nat) : Int)], []) ∧ P p h ≤ 1000 ∧ H p h ≤ 1000) :
  lim F 26 [d.av, .func f [.iptr x 0]] = some (.tuple [.agg [iv (d.hk : Int), .own 1 ((madeN (fun p h => atN d (P p h) (H p h)) d.rows.length d.hk).rows.map fun n : Nat => iv (n : Int))], iv 0], []) := by
 have h24 := hd.h24
 have h60 := hd.r60
 have hc := Check_ok d.a (by simp [DesN.a]; omega)
 rw [checkD_ok hd, DesN.a_av] at hc
 have hN : Value.nilFunc.oneCell' = true := rfl
 have hA : ∀ p h, p < d.rows.length → h < d.hk → lim F 45 [iv (p : Int), iv (h : Int), .iptr (.agg [iv (d.hk : Int), .list 1 (d.rows.map fun n : Nat => iv (n : Int))]) 0, .iptr (.agg [.func f [.iptr x 0]]) 0] = some (.bool (atN d (P p h) (H p h)), []) := by
  intro p h hp hh
  obtain ⟨h1, h2, h3⟩ := hf p h hp hh
  have ha := at_ok d hd (P p h) (H p h) (by omega) (by omega)
  unfold DesN.av at ha
  generalize d.rows.map (fun n : Nat => iv (n : Int)) = rs at *
  generalize P p h = pp at *
  generalize H p h = hh' at *
  generalize atN d pp hh' = b at *
  refine lim_by (fn := a45) (k := 4) (res := [.tmp 6]) rfl rfl rfl (by simp -implicitDefEqProofs (maxSteps := 2000000) (disch := first | exact tt_rfl rfl | omega | (simp only [go_sem] <;> omega) | fail) only [go_sem]) ?_
  try delta mvA
  try delta opA
  try delta tA
  simp -implicitDefEqProofs (maxSteps := 2000000) (disch := first | exact tt_rfl rfl | omega | (simp only [go_sem] <;> omega) | fail) only [go_sem]
  repeat (first | apply Wp.seqA | apply Wp.skipS | apply Wp.blockS | ((first | apply Wp.regS | apply Wp.condV | apply Wp.reg | apply Wp.condW | apply fin_ret); simp -implicitDefEqProofs (maxSteps := 2000000) (disch := first | exact tt_rfl rfl | omega | (simp only [go_sem] <;> omega) | fail) only [go_sem, h1, ha] <;> try with_reducible rfl) | apply Wp.block | apply Wp.exitS | apply Wp.retS | apply Wp.exit | apply Wp.ret | apply Wp.skip)
 have hM := made2_ok d.rows.length d.hk 45 (.agg [iv (d.hk : Int), .list 1 (d.rows.map fun n : Nat => iv (n : Int))]) (.agg [.func f [.iptr x 0]]) (fun p h => atN d (P p h) (H p h)) (by omega) (by omega) hA
 have hpl := nat_plain (madeN (fun p h => atN d (P p h) (H p h)) d.rows.length d.hk).rows
 have hln : ((madeN (fun p h => atN d (P p h) (H p h)) d.rows.length d.hk).rows.map fun n : Nat => iv (n : Int)).length = d.rows.length := by simp [madeN]
 have hln2 : (d.rows.map fun n : Nat => iv (n : Int)).length = d.rows.length := by simp
 unfold DesN.av at *
 generalize (madeN (fun p h => atN d (P p h) (H p h)) d.rows.length d.hk).rows.map (fun n : Nat => iv (n : Int)) = es at *
 generalize d.rows.map (fun n : Nat => iv (n : Int)) = rs at *
 refine lim_by (fn := a26) (k := 2) (res := [.cell 4 2 true, .tmp 5]) rfl rfl rfl (by simp -implicitDefEqProofs (maxSteps := 2000000) (disch := first | exact tt_rfl rfl | omega | (simp only [go_sem] <;> omega) | fail) only [go_sem]) ?_
 try delta mvA
 try delta opA
 try delta tA
 simp -implicitDefEqProofs (maxSteps := 2000000) (disch := first | exact tt_rfl rfl | omega | (simp only [go_sem] <;> omega) | fail) only [go_sem]
 repeat (first | apply Wp.seqA | apply Wp.skipS | apply Wp.blockS | ((first | apply Wp.regS | apply Wp.condV | apply Wp.reg | apply Wp.condW | apply fin_ret); simp -implicitDefEqProofs (maxSteps := 2000000) (disch := first | exact tt_rfl rfl | omega | (simp only [go_sem] <;> omega) | fail) only [go_sem, hc, hM, hN, hpl, hln, hln2] <;> try with_reducible rfl) | apply Wp.block | apply Wp.exitS | apply Wp.retS | apply Wp.exit | apply Wp.ret | apply Wp.skip)

def mirrorN (d : DesN) : DesN := madeN (fun p h => atN d p (d.hk - 1 - h)) d.rows.length d.hk
def flipN (d : DesN) : DesN := madeN (fun p h => atN d (d.rows.length - 1 - p) h) d.rows.length d.hk
def backN (d : DesN) : DesN := madeN (fun p h => !atN d p h) d.rows.length d.hk
def shiftN (d : DesN) (a b : Nat) : DesN := madeN (fun p h => atN d (p + d.rows.length - a) (h + d.hk - b)) d.rows.length d.hk
/-- a design that was made, handed over -/
def DesN.out (d : DesN) : AV := .agg [iv (d.hk : Int), .own 1 (d.rows.map fun n : Nat => iv (n : Int))]

theorem mirrorA_ok (d : DesN) (hd : d.Ok) (p h : Nat) (hp : p < d.rows.length) (hh : h < d.hk) : lim F 27 [iv (p : Int), iv (h : Int), d.cap] = some (.tuple [iv (p : Int), iv ((d.hk - 1 - h : Nat) : Int)], []) := by
 have h24 := hd.h24
 have e : (d.hk : Int) - 1 - (h : Int) = ((d.hk - 1 - h : Nat) : Int) := by omega
 unfold DesN.cap
 generalize d.rows.map (fun n : Nat => iv (n : Int)) = rs at *
 refine lim_by (fn := a27) (k := 3) (res := [.tmp 5, .tmp 6]) rfl rfl rfl (by simp -implicitDefEqProofs (maxSteps := 2000000) (disch := first | exact tt_rfl rfl | omega | (simp only [go_sem] <;> omega) | fail) only [go_sem]) ?_
 try delta mvA
 try delta opA
 try delta tA
 simp -implicitDefEqProofs (maxSteps := 2000000) (disch := first | exact tt_rfl rfl | omega | (simp only [go_sem] <;> omega) | fail) only [go_sem]
 repeat (first | apply Wp.seqA | apply Wp.skipS | apply Wp.blockS | ((first | apply Wp.regS | apply Wp.condV | apply Wp.reg | apply Wp.condW | apply fin_ret); simp -implicitDefEqProofs (maxSteps := 2000000) (disch := first | exact tt_rfl rfl | omega | (simp only [go_sem] <;> omega) | fail) only [go_sem, e] <;> try with_reducible rfl) | apply Wp.block | apply Wp.exitS | apply Wp.retS | apply Wp.exit | apply Wp.ret | apply Wp.skip)
theorem backA_ok (d : DesN) (hd : d.Ok) (p h : Nat) (hp : p < d.rows.length) (hh : h < d.hk) : lim F 31 [iv (p : Int), iv (h : Int), d.cap] = some (.bool (!atN d p h), []) := by
 have h60 := hd.r60
 have h24 := hd.h24
 have ha := at_ok d hd p h (by omega) (by omega)
 unfold DesN.cap DesN.av at *
 generalize d.rows.map (fun n : Nat => iv (n : Int)) = rs at *
 generalize atN d p h = b at *
 refine lim_by (fn := a31) (k := 3) (res := [.tmp 5]) rfl rfl rfl (by simp -implicitDefEqProofs (maxSteps := 2000000) (disch := first | exact tt_rfl rfl | omega | (simp only [go_sem] <;> omega) | fail) only [go_sem]) ?_
 try delta mvA
 try delta opA
 try delta tA
 simp -implicitDefEqProofs (maxSteps := 2000000) (disch := first | exact tt_rfl rfl | omega | (simp only [go_sem] <;> omega) | fail) only [go_sem]
 repeat (first | apply Wp.seqA | apply Wp.skipS | apply Wp.blockS | ((first | apply Wp.regS | apply Wp.condV | apply Wp.reg | apply Wp.condW | apply fin_ret); simp -implicitDefEqProofs (maxSteps := 2000000) (disch := first | exact tt_rfl rfl | omega | (simp only [go_sem] <;> omega) | fail) only [go_sem, ha] <;> try with_reducible rfl) | apply Wp.block | apply Wp.exitS | apply Wp.retS | apply Wp.exit | apply Wp.ret | apply Wp.skip)

theorem Mirror_ok (d : DesN) (hd : d.Ok) : lim F 11 [d.av] = some (.tuple [(mirrorN d).out, iv 0], []) := by
 have h24 := hd.h24
 have h60 := hd.r60
 have h := changed1_ok d hd 27 (.agg [iv (d.hk : Int), .list 1 (d.rows.map fun n : Nat => iv (n : Int))]) (iv 0) (iv 0) (fun p _ => p) (fun _ h => d.hk - 1 - h) (fun p h hp hh => ⟨mirrorA_ok d hd p h hp hh, by omega, by omega⟩)
 change lim F _ _ = some (AV.tuple [.agg [iv (d.hk : Int), .own 1 ((mirrorN d).rows.map fun n : Nat => iv (n : Int))], iv 0], []) at h
 change _ = some (AV.tuple [.agg [iv (d.hk : Int), .own 1 ((mirrorN d).rows.map fun n : Nat => iv (n : Int))], iv 0], [])
 unfold DesN.av at *
 have hpl := nat_plain (mirrorN d).rows
 have hln : ((mirrorN d).rows.map fun n : Nat => iv (n : Int)).length = d.rows.length := by simp [mirrorN, madeN]
 generalize (mirrorN d).rows.map (fun n : Nat => iv (n : Int)) = es at *
 generalize d.rows.map (fun n : Nat => iv (n : Int)) = rs at *
 refine lim_by (fn := a11) (k := 1) (res := [.cell 2 2 true, .tmp 3]) rfl rfl rfl (by simp -implicitDefEqProofs (maxSteps := 2000000) (disch := first | exact tt_rfl rfl | omega | (simp only [go_sem] <;> omega) | fail) only [go_sem]) ?_
 try delta mvA
 try delta opA
 try delta tA
 simp -implicitDefEqProofs (maxSteps := 2000000) (disch := first | exact tt_rfl rfl | omega | (simp only [go_sem] <;> omega) | fail) only [go_sem]
 repeat (first | apply Wp.seqA | apply Wp.skipS | apply Wp.blockS | ((first | apply Wp.regS | apply Wp.condV | apply Wp.reg | apply Wp.condW | apply fin_ret); simp -implicitDefEqProofs (maxSteps := 2000000) (disch := first | exact tt_rfl rfl | omega | (simp only [go_sem] <;> omega) | fail) only [go_sem, h, hpl, hln] <;> try with_reducible rfl) | apply Wp.block | apply Wp.exitS | apply Wp.retS | apply Wp.exit | apply Wp.ret | apply Wp.skip)
theorem Back_ok (d : DesN) (hd : d.Ok) : lim F 13 [d.av] = some (.tuple [(backN d).out, iv 0], []) := by
 have h24 := hd.h24
 have h60 := hd.r60
 have hc := Check_ok d.a (by simp [DesN.a]; omega)
 rw [checkD_ok hd, DesN.a_av] at hc
 have h := made1_ok d.rows.length d.hk 31 (.agg [iv (d.hk : Int), .list 1 (d.rows.map fun n : Nat => iv (n : Int))]) (iv 0) (fun p h => !atN d p h) (by omega) (by omega) (fun p h hp hh => backA_ok d hd p h hp hh)
 change lim F _ _ = some (AV.agg [iv (d.hk : Int), .own 1 ((backN d).rows.map fun n : Nat => iv (n : Int))], []) at h
 change _ = some (AV.tuple [AV.agg [iv (d.hk : Int), .own 1 ((backN d).rows.map fun n : Nat => iv (n : Int))], iv 0], [])
 unfold DesN.av at *
 have hpl := nat_plain (backN d).rows
 have hln : ((backN d).rows.map fun n : Nat => iv (n : Int)).length = d.rows.length := by simp [backN, madeN]
 have hln2 : (d.rows.map fun n : Nat => iv (n : Int)).length = d.rows.length := by simp
 generalize (backN d).rows.map (fun n : Nat => iv (n : Int)) = es at *
 generalize d.rows.map (fun n : Nat => iv (n : Int)) = rs at *
 refine lim_by (fn := a13) (k := 1) (res := [.cell 2 2 true, .tmp 3]) rfl rfl rfl (by simp -implicitDefEqProofs (maxSteps := 2000000) (disch := first | exact tt_rfl rfl | omega | (simp only [go_sem] <;> omega) | fail) only [go_sem]) ?_
 try delta mvA
 try delta opA
 try delta tA
 simp -implicitDefEqProofs (maxSteps := 2000000) (disch := first | exact tt_rfl rfl | omega | (simp only [go_sem] <;> omega) | fail) only [go_sem]
 repeat (first | apply Wp.seqA | apply Wp.skipS | apply Wp.blockS | ((first | apply Wp.regS | apply Wp.condV | apply Wp.reg | apply Wp.condW | apply fin_ret); simp -implicitDefEqProofs (maxSteps := 2000000) (disch := first | exact tt_rfl rfl | omega | (simp only [go_sem] <;> omega) | fail) only [go_sem, hc, h, hpl, hln, hln2] <;> try with_reducible rfl) | apply Wp.block | apply Wp.exitS | apply Wp.retS | apply Wp.exit | apply Wp.ret | apply Wp.skip)
end Go.Abs
