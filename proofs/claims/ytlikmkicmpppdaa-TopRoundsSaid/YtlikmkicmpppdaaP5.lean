/-
 Chapter 1: the loop over a design's floats. No condition beyond those that each theorem names.
-/
import Derived.Test.YtlikmkicmpppdaaV0
set_option linter.all false
namespace Go.Abs
set_option maxRecDepth 10000
set_option maxHeartbeats 4000000
def fV (f : FloatT) : List AV := [f.av]
theorem floats1_ok (d : DesN) : lim F 72 [d.av, iv 1] = some (.func 116 [.iptr (.agg [iv (d.rows.length : Int)]) 0, .iptr (.agg [.meth 114 d.av]) 0, .iptr (.agg [iv 1]) 0], []) := by
 have hN : Value.nilFunc.oneCell' = true := rfl;have hln : (natsV d.rows).length = d.rows.length := by simp
 unfold DesN.av;change lim F _ [.agg [_, .list 1 (natsV d.rows)], _] = some (.func _ [_, .iptr (.agg [.meth _ (.agg [_, .list 1 (natsV d.rows)])]) 0, _], []);refine lim_by (fn := a72) (k := 2) (res := [.tmp 4]) rfl rfl rfl (by simp -implicitDefEqProofs (maxSteps := 2000000) (disch := first | exact tt_rfl rfl | omega | (simp only [go_sem] <;> omega) | fail) only [go_sem]) ?_
 try delta mvA
 try delta opA
 try delta tA
 simp -implicitDefEqProofs (maxSteps := 2000000) (disch := first | exact tt_rfl rfl | omega | (simp only [go_sem] <;> omega) | fail) only [go_sem]
 repeat (first | apply Wp.seqA | apply Wp.skipS | apply Wp.blockS | ((first | apply Wp.regS | apply Wp.condV | apply Wp.reg | apply Wp.condW | apply fin_ret); simp -implicitDefEqProofs (maxSteps := 2000000) (disch := first | exact tt_rfl rfl | omega | (simp only [go_sem] <;> omega) | fail) only [go_sem, hN, hln] <;> try with_reducible rfl) | apply Wp.block | apply Wp.exitS | apply Wp.retS | apply Wp.exit | apply Wp.ret | apply Wp.skip)
theorem floats2_ok (d : DesN) : lim F 72 [d.av, iv 2] = some (.func 116 [.iptr (.agg [iv (d.hk : Int)]) 0, .iptr (.agg [.meth 115 d.av]) 0, .iptr (.agg [iv 2]) 0], []) := by
 have hN : Value.nilFunc.oneCell' = true := rfl;have hln : (natsV d.rows).length = d.rows.length := by simp
 unfold DesN.av;change lim F _ [.agg [_, .list 1 (natsV d.rows)], _] = some (.func _ [_, .iptr (.agg [.meth _ (.agg [_, .list 1 (natsV d.rows)])]) 0, _], []);refine lim_by (fn := a72) (k := 2) (res := [.tmp 4]) rfl rfl rfl (by simp -implicitDefEqProofs (maxSteps := 2000000) (disch := first | exact tt_rfl rfl | omega | (simp only [go_sem] <;> omega) | fail) only [go_sem]) ?_
 try delta mvA
 try delta opA
 try delta tA
 simp -implicitDefEqProofs (maxSteps := 2000000) (disch := first | exact tt_rfl rfl | omega | (simp only [go_sem] <;> omega) | fail) only [go_sem]
 repeat (first | apply Wp.seqA | apply Wp.skipS | apply Wp.blockS | ((first | apply Wp.regS | apply Wp.condV | apply Wp.reg | apply Wp.condW | apply fin_ret); simp -implicitDefEqProofs (maxSteps := 2000000) (disch := first | exact tt_rfl rfl | omega | (simp only [go_sem] <;> omega) | fail) only [go_sem, hN, hln] <;> try with_reducible rfl) | apply Wp.block | apply Wp.exitS | apply Wp.retS | apply Wp.exit | apply Wp.ret | apply Wp.skip)
theorem pickR_pos {d : DesN} (hd : d.Ok) (i : Nat) : 0 < (pickR d i).length ∧ (pickR d i).length ≤ 1000 := by
 have := hd.h1;have := hd.h24;rw [pickR_len]; omega
theorem hookR_pos {d : DesN} (hd : d.Ok) (i : Nat) : 0 < (hookR d i).length ∧ (hookR d i).length ≤ 1000 := by
 have := hd.r1;have := hd.r60;rw [hookR_len]; omega
theorem weft_guess (d : DesN) (hd : d.Ok) : lim F 116 [.ylog none [], .iptr (.agg [iv (d.rows.length : Int)]) 0, .iptr (.agg [.meth 114 d.av]) 0, .iptr (.agg [iv 1]) 0] = some (.tuple [], [.ylog none (weftF d |>.map fV)]) := by
 have h24 := hd.h24;have hr60 := hd.r60;have hP := pick_ok d hd;have hPos := pickR_pos hd;have hend := flFrom_end (pickR d) floatW d.rows.length;unfold weftF;rw [← flFrom_zero];unfold DesN.av at *;generalize d.rows.map (fun n : Nat => iv (n : Int)) = rs at *
 generalize hN : d.rows.length = N at *;refine lim_by (fn := a116) (k := 4) (res := []) rfl rfl rfl (by simp -implicitDefEqProofs (maxSteps := 2000000) (disch := first | exact tt_rfl rfl | omega | (simp only [go_sem] <;> omega) | fail) only [go_sem]) ?_
 try delta mvA
 try delta opA
 try delta tA
 simp -implicitDefEqProofs (maxSteps := 2000000) (disch := first | exact tt_rfl rfl | omega | (simp only [go_sem] <;> omega) | fail) only [go_sem]
 repeat (first | apply Wp.seqA | apply Wp.skipS | apply Wp.blockS | ((first | apply Wp.regS | apply Wp.condV | apply Wp.reg | apply Wp.condW | apply fin_ret); simp -implicitDefEqProofs (maxSteps := 2000000) (disch := first | exact tt_rfl rfl | omega | (simp only [go_sem] <;> omega) | fail) only [go_sem] <;> try with_reducible rfl) | apply Wp.block | apply Wp.exitS | apply Wp.retS | apply Wp.exit | apply Wp.ret | apply Wp.skip)
 apply Wp.loopF N (fun i => ⟨[(2, .iptr (.agg [.meth 114 (.agg [iv (d.hk : Int), .list 1 rs])]) 0), (3, .iptr (.agg [iv 1]) 0), (4, .ptr 256 0 0), (8, iv (N : Int)), (9, iv (i : Int))], [(256, .box [.yieldT 200000]), (200000, .num 3500000), (3500000, .log none ((flTo (pickR d) floatW i).map fV))], [(200000, none)], 10000000⟩) (fun _ => True)
 ·simp -implicitDefEqProofs (maxSteps := 2000000) (disch := first | exact tt_rfl rfl | omega | (simp only [go_sem] <;> omega) | fail) only [go_sem, norm_eq, Ok.some]
  try rfl
 ·trivial
 intro i hi _;by_cases h : i < N
 ·have hp := hP i h
  obtain ⟨hp0, hp1⟩ := hPos i;have hg := runs_guess _ hp0 hp1;have hc := runs_check _ hp0 hp1;have hfz := List.take_length (l := (pickR d i).map fun b => AV.bool b)
  have hpl := bool_plain (pickR d i);have hln : ((pickR d i).map fun b => AV.bool b).length = (pickR d i).length := by simp
  have hst := flTo_succ (pickR d) floatW i;unfold ringV at hg hc;generalize (pickR d i).map (fun b => AV.bool b) = es at *
  generalize hV : runsT (pickR d i) = V at *;repeat (first | apply Wp.seqA | apply Wp.skipS | apply Wp.blockS | ((first | apply Wp.regS | apply Wp.condV | apply Wp.reg | apply Wp.condW | apply fin_ret); simp -implicitDefEqProofs (maxSteps := 2000000) (disch := first | exact tt_rfl rfl | omega | (simp only [go_sem] <;> omega) | fail) only [go_sem, h, Int.ofNat_lt, hp, hpl] <;> try with_reducible rfl) | apply Wp.block | apply Wp.exitS | apply Wp.retS | apply Wp.exit | apply Wp.ret | apply Wp.skip)
  refine Wp.rangeFm (fun j fr => fr = ⟨[(2, .iptr (.agg [.meth 114 (.agg [iv (d.hk : Int), .list 1 rs])]) 0), (3, .iptr (.agg [iv 1]) 0), (4, .ptr 256 0 0), (5, .ptr 320 0 0), (8, iv (N : Int)), (9, iv (i : Int))], [(256, .box [.yieldT 200000]), (320, .box [iv (i : Int)]), (200000, .num 3500000), (3500000, .log none ((flTo (pickR d) floatW i ++ (V.take j).map (floatW i)).map fV))], [(200000, none)], 10000000⟩) (cap := .slice 10000192 0 es.length) (ids := [10000192]) rfl ?_ hg hc ?_ ?_ ?_
  ·rw [show frzDepth = 5 + 1 from rfl, frz_slice]
   simp [frzSl, obind, grd, lk]
  ·simp -implicitDefEqProofs (maxSteps := 2000000) (disch := first | exact tt_rfl rfl | omega | (simp only [go_sem] <;> omega) | fail) only [go_sem, norm_eq, Ok.some]
   try simp
  ·rintro j x fr hx rfl
   have hlt : j < V.length := by
    rcases Nat.lt_or_ge j V.length with h | h
    ·exact h
    ·rw [List.getElem?_eq_none (by simpa using h)] at hx; cases hx
   have ex : x = runV V[j] := by
    rw [List.getElem?_map, List.getElem?_eq_getElem hlt] at hx;cases hx; rfl
   subst ex;refine ⟨_, rfl, ?_⟩;have hs3 : (flTo (pickR d) floatW i ++ (V.take (j + 1)).map (floatW i)).map fV = (flTo (pickR d) floatW i ++ (V.take j).map (floatW i)).map fV ++ [[.agg [iv (i : Int), iv (V[j].first : Int), iv (V[j].len : Int), .bool V[j].up]]] := by
    simp only [List.take_succ_eq_append_getElem hlt, List.map_append, List.append_assoc];rfl
   have hq : AV.beqL [.agg [iv (i : Int), iv (V[j].first : Int), iv (V[j].len : Int), .bool V[j].up]] [.agg [iv (i : Int), iv (V[j].first : Int), iv (V[j].len : Int), .bool V[j].up]] = true := by simp [AV.beqL, AV.beq]
   generalize (flTo (pickR d) floatW i ++ (V.take j).map (floatW i)).map fV = q at *;unfold RunT.av at *;generalize V[j] = x at *;repeat (first | apply Wp.seqA | apply Wp.skipS | apply Wp.blockS | ((first | apply Wp.regS | apply Wp.condV | apply Wp.reg | apply Wp.condW | apply fin_ret); simp -implicitDefEqProofs (maxSteps := 2000000) (disch := first | exact tt_rfl rfl | omega | (simp only [go_sem] <;> omega) | fail) only [go_sem, hq] <;> try with_reducible rfl) | apply Wp.block | apply Wp.exitS | apply Wp.retS | apply Wp.exit | apply Wp.ret | apply Wp.skip)
   apply block_norm;apply round_next
   ·simp -implicitDefEqProofs (maxSteps := 2000000) (disch := first | exact tt_rfl rfl | omega | (simp only [go_sem] <;> omega) | fail) only [go_sem, norm_eq, Ok.some]; with_reducible rfl
   rw [hs3]
  ·rintro fr rfl
   rw [show ((V.map runV).length) = V.length by simp]
   apply block_norm;repeat (first | apply Wp.seqA | apply Wp.skipS | apply Wp.blockS | ((first | apply Wp.regS | apply Wp.condV | apply Wp.reg | apply Wp.condW | apply fin_ret); simp -implicitDefEqProofs (maxSteps := 2000000) (disch := first | exact tt_rfl rfl | omega | (simp only [go_sem] <;> omega) | fail) only [go_sem] <;> try with_reducible rfl) | apply Wp.block | apply Wp.exitS | apply Wp.retS | apply Wp.exit | apply Wp.ret | apply Wp.skip)
   apply round_next
   ·simp -implicitDefEqProofs (maxSteps := 2000000) (disch := first | exact tt_rfl rfl | omega | (simp only [go_sem] <;> omega) | fail) only [go_sem, norm_eq, Ok.some]; with_reducible rfl
   refine ⟨h, ?_, trivial⟩;rw [hst];simp
 ·obtain rfl : i = N := by omega
  rw [flFrom_zero];repeat (first | apply Wp.seqA | apply Wp.skipS | apply Wp.blockS | ((first | apply Wp.regS | apply Wp.condV | apply Wp.reg | apply Wp.condW | apply fin_ret); simp -implicitDefEqProofs (maxSteps := 2000000) (disch := first | exact tt_rfl rfl | omega | (simp only [go_sem] <;> omega) | fail) only [go_sem, Int.lt_irrefl] <;> try with_reducible rfl) | apply Wp.block | apply Wp.exitS | apply Wp.retS | apply Wp.exit | apply Wp.ret | apply Wp.skip)
theorem weft_check (d : DesN) (hd : d.Ok) : lim F 116 [.ylog (some 0) (weftF d |>.map fV), .iptr (.agg [iv (d.rows.length : Int)]) 0, .iptr (.agg [.meth 114 d.av]) 0, .iptr (.agg [iv 1]) 0] = some (.tuple [], [.ylog (some 0) []]) := by
 have h24 := hd.h24;have hr60 := hd.r60;have hP := pick_ok d hd;have hPos := pickR_pos hd;have hend := flFrom_end (pickR d) floatW d.rows.length;unfold weftF;rw [← flFrom_zero];unfold DesN.av at *;generalize d.rows.map (fun n : Nat => iv (n : Int)) = rs at *
 generalize hN : d.rows.length = N at *;refine lim_by (fn := a116) (k := 4) (res := []) rfl rfl rfl (by simp -implicitDefEqProofs (maxSteps := 2000000) (disch := first | exact tt_rfl rfl | omega | (simp only [go_sem] <;> omega) | fail) only [go_sem]) ?_
 try delta mvA
 try delta opA
 try delta tA
 simp -implicitDefEqProofs (maxSteps := 2000000) (disch := first | exact tt_rfl rfl | omega | (simp only [go_sem] <;> omega) | fail) only [go_sem]
 repeat (first | apply Wp.seqA | apply Wp.skipS | apply Wp.blockS | ((first | apply Wp.regS | apply Wp.condV | apply Wp.reg | apply Wp.condW | apply fin_ret); simp -implicitDefEqProofs (maxSteps := 2000000) (disch := first | exact tt_rfl rfl | omega | (simp only [go_sem] <;> omega) | fail) only [go_sem] <;> try with_reducible rfl) | apply Wp.block | apply Wp.exitS | apply Wp.retS | apply Wp.exit | apply Wp.ret | apply Wp.skip)
 apply Wp.loopF N (fun i => ⟨[(2, .iptr (.agg [.meth 114 (.agg [iv (d.hk : Int), .list 1 rs])]) 0), (3, .iptr (.agg [iv 1]) 0), (4, .ptr 256 0 0), (8, iv (N : Int)), (9, iv (i : Int))], [(256, .box [.yieldT 200000]), (200000, .num 3500000), (3500000, .log (some 0) ((flFrom (pickR d) floatW i N).map fV))], [(200000, none)], 10000000⟩) (fun _ => True)
 ·simp -implicitDefEqProofs (maxSteps := 2000000) (disch := first | exact tt_rfl rfl | omega | (simp only [go_sem] <;> omega) | fail) only [go_sem, norm_eq, Ok.some]
  try rfl
 ·trivial
 intro i hi _;by_cases h : i < N
 ·have hp := hP i h
  obtain ⟨hp0, hp1⟩ := hPos i;have hg := runs_guess _ hp0 hp1;have hc := runs_check _ hp0 hp1;have hfz := List.take_length (l := (pickR d i).map fun b => AV.bool b)
  have hpl := bool_plain (pickR d i);have hln : ((pickR d i).map fun b => AV.bool b).length = (pickR d i).length := by simp
  have hst := flFrom_step (R := pickR d) (mk := floatW) h;unfold ringV at hg hc;generalize (pickR d i).map (fun b => AV.bool b) = es at *
  generalize hV : runsT (pickR d i) = V at *;repeat (first | apply Wp.seqA | apply Wp.skipS | apply Wp.blockS | ((first | apply Wp.regS | apply Wp.condV | apply Wp.reg | apply Wp.condW | apply fin_ret); simp -implicitDefEqProofs (maxSteps := 2000000) (disch := first | exact tt_rfl rfl | omega | (simp only [go_sem] <;> omega) | fail) only [go_sem, h, Int.ofNat_lt, hp, hpl] <;> try with_reducible rfl) | apply Wp.block | apply Wp.exitS | apply Wp.retS | apply Wp.exit | apply Wp.ret | apply Wp.skip)
  refine Wp.rangeFm (fun j fr => fr = ⟨[(2, .iptr (.agg [.meth 114 (.agg [iv (d.hk : Int), .list 1 rs])]) 0), (3, .iptr (.agg [iv 1]) 0), (4, .ptr 256 0 0), (5, .ptr 320 0 0), (8, iv (N : Int)), (9, iv (i : Int))], [(256, .box [.yieldT 200000]), (320, .box [iv (i : Int)]), (200000, .num 3500000), (3500000, .log (some 0) (((V.drop j).map (floatW i) ++ flFrom (pickR d) floatW (i + 1) N).map fV))], [(200000, none)], 10000000⟩) (cap := .slice 10000192 0 es.length) (ids := [10000192]) rfl ?_ hg hc ?_ ?_ ?_
  ·rw [show frzDepth = 5 + 1 from rfl, frz_slice]
   simp [frzSl, obind, grd, lk]
  ·simp -implicitDefEqProofs (maxSteps := 2000000) (disch := first | exact tt_rfl rfl | omega | (simp only [go_sem] <;> omega) | fail) only [go_sem, norm_eq, Ok.some]
   rw [hst];try rfl
  ·rintro j x fr hx rfl
   have hlt : j < V.length := by
    rcases Nat.lt_or_ge j V.length with h | h
    ·exact h
    ·rw [List.getElem?_eq_none (by simpa using h)] at hx; cases hx
   have ex : x = runV V[j] := by
    rw [List.getElem?_map, List.getElem?_eq_getElem hlt] at hx;cases hx; rfl
   subst ex;refine ⟨_, rfl, ?_⟩;have hs3 : ((V.drop j).map (floatW i) ++ flFrom (pickR d) floatW (i + 1) N).map fV = [.agg [iv (i : Int), iv (V[j].first : Int), iv (V[j].len : Int), .bool V[j].up]] :: ((V.drop (j + 1)).map (floatW i) ++ flFrom (pickR d) floatW (i + 1) N).map fV := by
    rw [List.drop_eq_getElem_cons hlt];rfl
   have hq : AV.beqL [.agg [iv (i : Int), iv (V[j].first : Int), iv (V[j].len : Int), .bool V[j].up]] [.agg [iv (i : Int), iv (V[j].first : Int), iv (V[j].len : Int), .bool V[j].up]] = true := by simp [AV.beqL, AV.beq]
   rw [hs3];generalize ((V.drop (j + 1)).map (floatW i) ++ flFrom (pickR d) floatW (i + 1) N).map fV = q at *;unfold RunT.av at *;generalize V[j] = x at *;repeat (first | apply Wp.seqA | apply Wp.skipS | apply Wp.blockS | ((first | apply Wp.regS | apply Wp.condV | apply Wp.reg | apply Wp.condW | apply fin_ret); simp -implicitDefEqProofs (maxSteps := 2000000) (disch := first | exact tt_rfl rfl | omega | (simp only [go_sem] <;> omega) | fail) only [go_sem, hq] <;> try with_reducible rfl) | apply Wp.block | apply Wp.exitS | apply Wp.retS | apply Wp.exit | apply Wp.ret | apply Wp.skip)
   apply block_norm;apply round_next
   ·simp -implicitDefEqProofs (maxSteps := 2000000) (disch := first | exact tt_rfl rfl | omega | (simp only [go_sem] <;> omega) | fail) only [go_sem, norm_eq, Ok.some]; with_reducible rfl
   rfl
  ·rintro fr rfl
   rw [show ((V.map runV).length) = V.length by simp]
   apply block_norm;repeat (first | apply Wp.seqA | apply Wp.skipS | apply Wp.blockS | ((first | apply Wp.regS | apply Wp.condV | apply Wp.reg | apply Wp.condW | apply fin_ret); simp -implicitDefEqProofs (maxSteps := 2000000) (disch := first | exact tt_rfl rfl | omega | (simp only [go_sem] <;> omega) | fail) only [go_sem] <;> try with_reducible rfl) | apply Wp.block | apply Wp.exitS | apply Wp.retS | apply Wp.exit | apply Wp.ret | apply Wp.skip)
   apply round_next
   ·simp -implicitDefEqProofs (maxSteps := 2000000) (disch := first | exact tt_rfl rfl | omega | (simp only [go_sem] <;> omega) | fail) only [go_sem, norm_eq, Ok.some]; with_reducible rfl
   refine ⟨h, ?_, trivial⟩;rw [List.drop_length, List.map_nil, List.nil_append];simp
 ·obtain rfl : i = N := by omega
  rw [hend, List.map_nil];repeat (first | apply Wp.seqA | apply Wp.skipS | apply Wp.blockS | ((first | apply Wp.regS | apply Wp.condV | apply Wp.reg | apply Wp.condW | apply fin_ret); simp -implicitDefEqProofs (maxSteps := 2000000) (disch := first | exact tt_rfl rfl | omega | (simp only [go_sem] <;> omega) | fail) only [go_sem, Int.lt_irrefl] <;> try with_reducible rfl) | apply Wp.block | apply Wp.exitS | apply Wp.retS | apply Wp.exit | apply Wp.ret | apply Wp.skip)
end Go.Abs
