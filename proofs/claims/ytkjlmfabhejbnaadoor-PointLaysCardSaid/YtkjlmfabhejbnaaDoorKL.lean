/-
 Chapter 1: the longest floats, in every order of the map. No condition beyond those that each theorem names.
-/
import Derived.Test.YtkjlmfabhejbnaaDoorFns
import Derived.Test.YtkjlmfabhejbnaaDoorK
import Derived.Test.YtkjlmfabhejbnaaDoorEvI
set_option linter.all false
namespace Go.Abs
set_option maxRecDepth 10000
set_option maxHeartbeats 8000000
structure FloatT where
 pick : Int
 hook : Int
 len : Int
 up : Bool
def FloatT.av (f : FloatT) : AV := .agg [iv f.pick, iv f.hook, iv f.len, .bool f.up]
def mxStep (b : Bool) (m : Int) (f : FloatT) : Int := if f.up = b then max m f.len else m
def mxF (b : Bool) (l : List FloatT) : Int := l.foldl (mxStep b) 0
theorem mxF_take {b : Bool} {l : List FloatT} {i : Nat} (h : i < l.length) : mxF b (l.take (i + 1)) = mxStep b (mxF b (l.take i)) l[i] := by
 unfold mxF;rw [List.take_succ_eq_append_getElem h, List.foldl_append]; rfl
def e1L : Int × AV := (1, .agg [.ptr 128 0 0, .ptr 128 0 1])
def e2L : Int × AV := (2, .agg [.ptr 128 0 3, .ptr 128 0 2])
theorem longest_of (hk np : Int) (rows : List AV) (fw fh : List FloatT)
  (hc : lim F 46 [.agg [iv hk, .list 1 rows]] = some (iv 0, []))
  (h1 : lim F 50 [.agg [iv hk, .list 1 rows], iv 1] = some (.func 70 [.iptr (.agg [iv np]) 0, .iptr (.agg [.meth 68 (.agg [iv hk, .list 1 rows])]) 0, .iptr (.agg [iv 1]) 0], []))
  (h2 : lim F 50 [.agg [iv hk, .list 1 rows], iv 2] = some (.func 70 [.iptr (.agg [iv hk]) 0, .iptr (.agg [.meth 69 (.agg [iv hk, .list 1 rows])]) 0, .iptr (.agg [iv 2]) 0], []))
  (g1 : lim F 70 [.ylog none [], .iptr (.agg [iv np]) 0, .iptr (.agg [.meth 68 (.agg [iv hk, .list 1 rows])]) 0, .iptr (.agg [iv 1]) 0] = some (.tuple [], [.ylog none (fw.map fun f => [f.av])]))
  (g2 : lim F 70 [.ylog none [], .iptr (.agg [iv hk]) 0, .iptr (.agg [.meth 69 (.agg [iv hk, .list 1 rows])]) 0, .iptr (.agg [iv 2]) 0] = some (.tuple [], [.ylog none (fh.map fun f => [f.av])]))
  (k1 : lim F 70 [.ylog (some 0) (fw.map fun f => [f.av]), .iptr (.agg [iv np]) 0, .iptr (.agg [.meth 68 (.agg [iv hk, .list 1 rows])]) 0, .iptr (.agg [iv 1]) 0] = some (.tuple [], [.ylog (some 0) []]))
  (k2 : lim F 70 [.ylog (some 0) (fh.map fun f => [f.av]), .iptr (.agg [iv hk]) 0, .iptr (.agg [.meth 69 (.agg [iv hk, .list 1 rows])]) 0, .iptr (.agg [iv 2]) 0] = some (.tuple [], [.ylog (some 0) []])) :
  lim F 26 [.agg [iv hk, .list 1 rows]] = some (.tuple [.agg [iv (mxF false fw), iv (mxF true fw), iv (mxF true fh), iv (mxF false fh)], iv 0], []) := by
 have hN : (Value.pointer none).oneCell' = true := rfl;refine lim_by (fn := a26) (k := 1) (res := [.cell 2 4 true, .tmp 3]) rfl rfl rfl (by simp -implicitDefEqProofs (maxSteps := 2000000) (disch := first | exact tt_rfl rfl | omega | (simp only [go_sem] <;> omega) | fail) only [go_sem]) ?_
 try delta mvA
 try delta opA
 try delta tA
 simp -implicitDefEqProofs (maxSteps := 2000000) (disch := first | exact tt_rfl rfl | omega | (simp only [go_sem] <;> omega) | fail) only [go_sem]
 repeat (first | apply Wp.seqA | apply Wp.skipS | apply Wp.blockS | ((first | apply Wp.regS | apply Wp.condV | apply Wp.reg | apply Wp.condW | apply fin_ret); simp -implicitDefEqProofs (maxSteps := 2000000) (disch := first | exact tt_rfl rfl | omega | (simp only [go_sem] <;> omega) | fail) only [go_sem, hc] <;> try with_reducible rfl) | apply Wp.block | apply Wp.exitS | apply Wp.retS | apply Wp.exit | apply Wp.ret | apply Wp.skip)
 refine Wp.rangeM (fun l => ⟨[(1, .ptr 64 0 0), (2, .ptr 128 0 0), (23, .itT 1472)], [(64, .box [iv hk, .list 1 rows]), (128, .box [iv (if l.any (·.1 = 1) then 0 else mxF false fw), iv (if l.any (·.1 = 1) then 0 else mxF true fw), iv (if l.any (·.1 = 2) then 0 else mxF true fh), iv (if l.any (·.1 = 2) then 0 else mxF false fh)]), (1472, .iter .i64 l none)], [], 10000000⟩)
  (fun l => l = [e1L, e2L] ∨ l = [e1L] ∨ l = [e2L] ∨ l = []) [e1L, e2L] (id := 1472) (k := .i64) ?_ (.inl rfl) (fun l _ => rfl) ?_ (.inr (.inr (.inr rfl))) ?_
 ·simp -implicitDefEqProofs (maxSteps := 2000000) (disch := first | exact tt_rfl rfl | omega | (simp only [go_sem] <;> omega) | fail) only [go_sem, norm_eq, Ok.some]
  simp [e1L, e2L]
 ·rintro l (rfl | rfl | rfl | rfl) i x hx
  ·match i, hx with
   | 0, hx =>
    cases hx;refine ⟨.inr (.inr (.inl rfl)), ?_⟩;rw [takeIt_eq];dsimp only [e1L, e2L, List.eraseIdx, List.any, Option.isSome];repeat (first | apply Wp.seqA | apply Wp.skipS | apply Wp.blockS | ((first | apply Wp.regS | apply Wp.condV | apply Wp.reg | apply Wp.condW | apply fin_ret); simp -implicitDefEqProofs (maxSteps := 2000000) (disch := first | exact tt_rfl rfl | omega | (simp only [go_sem] <;> omega) | fail) only [go_sem, h1, hN] <;> try with_reducible rfl) | apply Wp.block | apply Wp.exitS | apply Wp.retS | apply Wp.exit | apply Wp.ret | apply Wp.skip)
    refine Wp.rangeF (fun i fr => fr = ⟨[(1, .ptr 64 0 0), (2, .ptr 128 0 0), (6, .ptr 384 0 0), (23, .itT 1472)], [(64, .box [iv hk, .list 1 rows]), (128, .box [iv (mxF false (fw.take i)), iv (mxF true (fw.take i)), iv 0, iv 0]), (384, .box [.ptr 128 0 0, .ptr 128 0 1]), (1472, .iter .i64 [(2, .agg [.ptr 128 0 3, .ptr 128 0 2])] none)], [], 10000000⟩) rfl rfl g1 k1 ?_ ?_ ?_
    ·simp -implicitDefEqProofs (maxSteps := 2000000) (disch := first | exact tt_rfl rfl | omega | (simp only [go_sem] <;> omega) | fail) only [go_sem, norm_eq, Ok.some]
     simp [mxF]
    ·rintro i x fr hx rfl
     have hlt : i < fw.length := by
      rcases Nat.lt_or_ge i fw.length with h | h
      ·exact h
      ·rw [List.getElem?_eq_none (by simpa using h)] at hx; cases hx
     have ex : x = [fw[i].av] := by
      rw [List.getElem?_map, List.getElem?_eq_getElem hlt] at hx;cases hx; rfl
     subst ex;refine ⟨_, rfl, ?_⟩;have m0 := mxF_take (b := false) hlt;have m1 := mxF_take (b := true) hlt;generalize mxF false (fw.take i) = a0 at *;generalize mxF true (fw.take i) = a1 at *;unfold FloatT.av;cases hup : fw[i].up
     ·repeat (first | apply Wp.seqA | apply Wp.skipS | apply Wp.blockS | ((first | apply Wp.regS | apply Wp.condV | apply Wp.reg | apply Wp.condW | apply fin_ret); simp -implicitDefEqProofs (maxSteps := 2000000) (disch := first | exact tt_rfl rfl | omega | (simp only [go_sem] <;> omega) | fail) only [go_sem, hup] <;> try with_reducible rfl) | apply Wp.block | apply Wp.exitS | apply Wp.retS | apply Wp.exit | apply Wp.ret | apply Wp.skip)
      apply block_norm;apply round_next
      ·simp -implicitDefEqProofs (maxSteps := 2000000) (disch := first | exact tt_rfl rfl | omega | (simp only [go_sem] <;> omega) | fail) only [go_sem, norm_eq, Ok.some]; with_reducible rfl
      rw [m0, m1];simp [mxStep, hup]
     ·repeat (first | apply Wp.seqA | apply Wp.skipS | apply Wp.blockS | ((first | apply Wp.regS | apply Wp.condV | apply Wp.reg | apply Wp.condW | apply fin_ret); simp -implicitDefEqProofs (maxSteps := 2000000) (disch := first | exact tt_rfl rfl | omega | (simp only [go_sem] <;> omega) | fail) only [go_sem, hup] <;> try with_reducible rfl) | apply Wp.block | apply Wp.exitS | apply Wp.retS | apply Wp.exit | apply Wp.ret | apply Wp.skip)
      apply block_norm;apply round_next
      ·simp -implicitDefEqProofs (maxSteps := 2000000) (disch := first | exact tt_rfl rfl | omega | (simp only [go_sem] <;> omega) | fail) only [go_sem, norm_eq, Ok.some]; with_reducible rfl
      rw [m0, m1];simp [mxStep, hup]
    ·rintro fr rfl
     rw [show fw.take (fw.map fun f => [f.av]).length = fw by simp]
     repeat (first | apply Wp.seqA | apply Wp.skipS | apply Wp.blockS | ((first | apply Wp.regS | apply Wp.condV | apply Wp.reg | apply Wp.condW | apply fin_ret); simp -implicitDefEqProofs (maxSteps := 2000000) (disch := first | exact tt_rfl rfl | omega | (simp only [go_sem] <;> omega) | fail) only [go_sem] <;> try with_reducible rfl) | apply Wp.block | apply Wp.exitS | apply Wp.retS | apply Wp.exit | apply Wp.ret | apply Wp.skip)
     refine ⟨rfl, ?_⟩;simp -implicitDefEqProofs (maxSteps := 2000000) (disch := first | exact tt_rfl rfl | omega | (simp only [go_sem] <;> omega) | fail) only [go_sem, norm_eq, Ok.some]
     try simp
   | 1, hx =>
    cases hx;refine ⟨.inr (.inl rfl), ?_⟩;rw [takeIt_eq];dsimp only [e1L, e2L, List.eraseIdx, List.any, Option.isSome];repeat (first | apply Wp.seqA | apply Wp.skipS | apply Wp.blockS | ((first | apply Wp.regS | apply Wp.condV | apply Wp.reg | apply Wp.condW | apply fin_ret); simp -implicitDefEqProofs (maxSteps := 2000000) (disch := first | exact tt_rfl rfl | omega | (simp only [go_sem] <;> omega) | fail) only [go_sem, h2, hN] <;> try with_reducible rfl) | apply Wp.block | apply Wp.exitS | apply Wp.retS | apply Wp.exit | apply Wp.ret | apply Wp.skip)
    refine Wp.rangeF (fun i fr => fr = ⟨[(1, .ptr 64 0 0), (2, .ptr 128 0 0), (6, .ptr 384 0 0), (23, .itT 1472)], [(64, .box [iv hk, .list 1 rows]), (128, .box [iv 0, iv 0, iv (mxF true (fh.take i)), iv (mxF false (fh.take i))]), (384, .box [.ptr 128 0 3, .ptr 128 0 2]), (1472, .iter .i64 [(1, .agg [.ptr 128 0 0, .ptr 128 0 1])] none)], [], 10000000⟩) rfl rfl g2 k2 ?_ ?_ ?_
    ·simp -implicitDefEqProofs (maxSteps := 2000000) (disch := first | exact tt_rfl rfl | omega | (simp only [go_sem] <;> omega) | fail) only [go_sem, norm_eq, Ok.some]
     simp [mxF]
    ·rintro i x fr hx rfl
     have hlt : i < fh.length := by
      rcases Nat.lt_or_ge i fh.length with h | h
      ·exact h
      ·rw [List.getElem?_eq_none (by simpa using h)] at hx; cases hx
     have ex : x = [fh[i].av] := by
      rw [List.getElem?_map, List.getElem?_eq_getElem hlt] at hx;cases hx; rfl
     subst ex;refine ⟨_, rfl, ?_⟩;have m0 := mxF_take (b := false) hlt;have m1 := mxF_take (b := true) hlt;generalize mxF false (fh.take i) = a0 at *;generalize mxF true (fh.take i) = a1 at *;unfold FloatT.av;cases hup : fh[i].up
     ·repeat (first | apply Wp.seqA | apply Wp.skipS | apply Wp.blockS | ((first | apply Wp.regS | apply Wp.condV | apply Wp.reg | apply Wp.condW | apply fin_ret); simp -implicitDefEqProofs (maxSteps := 2000000) (disch := first | exact tt_rfl rfl | omega | (simp only [go_sem] <;> omega) | fail) only [go_sem, hup] <;> try with_reducible rfl) | apply Wp.block | apply Wp.exitS | apply Wp.retS | apply Wp.exit | apply Wp.ret | apply Wp.skip)
      apply block_norm;apply round_next
      ·simp -implicitDefEqProofs (maxSteps := 2000000) (disch := first | exact tt_rfl rfl | omega | (simp only [go_sem] <;> omega) | fail) only [go_sem, norm_eq, Ok.some]; with_reducible rfl
      rw [m0, m1];simp [mxStep, hup]
     ·repeat (first | apply Wp.seqA | apply Wp.skipS | apply Wp.blockS | ((first | apply Wp.regS | apply Wp.condV | apply Wp.reg | apply Wp.condW | apply fin_ret); simp -implicitDefEqProofs (maxSteps := 2000000) (disch := first | exact tt_rfl rfl | omega | (simp only [go_sem] <;> omega) | fail) only [go_sem, hup] <;> try with_reducible rfl) | apply Wp.block | apply Wp.exitS | apply Wp.retS | apply Wp.exit | apply Wp.ret | apply Wp.skip)
      apply block_norm;apply round_next
      ·simp -implicitDefEqProofs (maxSteps := 2000000) (disch := first | exact tt_rfl rfl | omega | (simp only [go_sem] <;> omega) | fail) only [go_sem, norm_eq, Ok.some]; with_reducible rfl
      rw [m0, m1];simp [mxStep, hup]
    ·rintro fr rfl
     rw [show fh.take (fh.map fun f => [f.av]).length = fh by simp]
     repeat (first | apply Wp.seqA | apply Wp.skipS | apply Wp.blockS | ((first | apply Wp.regS | apply Wp.condV | apply Wp.reg | apply Wp.condW | apply fin_ret); simp -implicitDefEqProofs (maxSteps := 2000000) (disch := first | exact tt_rfl rfl | omega | (simp only [go_sem] <;> omega) | fail) only [go_sem] <;> try with_reducible rfl) | apply Wp.block | apply Wp.exitS | apply Wp.retS | apply Wp.exit | apply Wp.ret | apply Wp.skip)
     refine ⟨rfl, ?_⟩;simp -implicitDefEqProofs (maxSteps := 2000000) (disch := first | exact tt_rfl rfl | omega | (simp only [go_sem] <;> omega) | fail) only [go_sem, norm_eq, Ok.some]
     try simp
  ·match i, hx with
   | 0, hx =>
    cases hx;refine ⟨.inr (.inr (.inr rfl)), ?_⟩;rw [takeIt_eq];dsimp only [e1L, e2L, List.eraseIdx, List.any, Option.isSome];repeat (first | apply Wp.seqA | apply Wp.skipS | apply Wp.blockS | ((first | apply Wp.regS | apply Wp.condV | apply Wp.reg | apply Wp.condW | apply fin_ret); simp -implicitDefEqProofs (maxSteps := 2000000) (disch := first | exact tt_rfl rfl | omega | (simp only [go_sem] <;> omega) | fail) only [go_sem, h1, hN] <;> try with_reducible rfl) | apply Wp.block | apply Wp.exitS | apply Wp.retS | apply Wp.exit | apply Wp.ret | apply Wp.skip)
    refine Wp.rangeF (fun i fr => fr = ⟨[(1, .ptr 64 0 0), (2, .ptr 128 0 0), (6, .ptr 384 0 0), (23, .itT 1472)], [(64, .box [iv hk, .list 1 rows]), (128, .box [iv (mxF false (fw.take i)), iv (mxF true (fw.take i)), iv (mxF true fh), iv (mxF false fh)]), (384, .box [.ptr 128 0 0, .ptr 128 0 1]), (1472, .iter .i64 [] none)], [], 10000000⟩) rfl rfl g1 k1 ?_ ?_ ?_
    ·simp -implicitDefEqProofs (maxSteps := 2000000) (disch := first | exact tt_rfl rfl | omega | (simp only [go_sem] <;> omega) | fail) only [go_sem, norm_eq, Ok.some]
     simp [mxF]
    ·rintro i x fr hx rfl
     have hlt : i < fw.length := by
      rcases Nat.lt_or_ge i fw.length with h | h
      ·exact h
      ·rw [List.getElem?_eq_none (by simpa using h)] at hx; cases hx
     have ex : x = [fw[i].av] := by
      rw [List.getElem?_map, List.getElem?_eq_getElem hlt] at hx;cases hx; rfl
     subst ex;refine ⟨_, rfl, ?_⟩;have m0 := mxF_take (b := false) hlt;have m1 := mxF_take (b := true) hlt;generalize mxF false (fw.take i) = a0 at *;generalize mxF true (fw.take i) = a1 at *;unfold FloatT.av;cases hup : fw[i].up
     ·repeat (first | apply Wp.seqA | apply Wp.skipS | apply Wp.blockS | ((first | apply Wp.regS | apply Wp.condV | apply Wp.reg | apply Wp.condW | apply fin_ret); simp -implicitDefEqProofs (maxSteps := 2000000) (disch := first | exact tt_rfl rfl | omega | (simp only [go_sem] <;> omega) | fail) only [go_sem, hup] <;> try with_reducible rfl) | apply Wp.block | apply Wp.exitS | apply Wp.retS | apply Wp.exit | apply Wp.ret | apply Wp.skip)
      apply block_norm;apply round_next
      ·simp -implicitDefEqProofs (maxSteps := 2000000) (disch := first | exact tt_rfl rfl | omega | (simp only [go_sem] <;> omega) | fail) only [go_sem, norm_eq, Ok.some]; with_reducible rfl
      rw [m0, m1];simp [mxStep, hup]
     ·repeat (first | apply Wp.seqA | apply Wp.skipS | apply Wp.blockS | ((first | apply Wp.regS | apply Wp.condV | apply Wp.reg | apply Wp.condW | apply fin_ret); simp -implicitDefEqProofs (maxSteps := 2000000) (disch := first | exact tt_rfl rfl | omega | (simp only [go_sem] <;> omega) | fail) only [go_sem, hup] <;> try with_reducible rfl) | apply Wp.block | apply Wp.exitS | apply Wp.retS | apply Wp.exit | apply Wp.ret | apply Wp.skip)
      apply block_norm;apply round_next
      ·simp -implicitDefEqProofs (maxSteps := 2000000) (disch := first | exact tt_rfl rfl | omega | (simp only [go_sem] <;> omega) | fail) only [go_sem, norm_eq, Ok.some]; with_reducible rfl
      rw [m0, m1];simp [mxStep, hup]
    ·rintro fr rfl
     rw [show fw.take (fw.map fun f => [f.av]).length = fw by simp]
     repeat (first | apply Wp.seqA | apply Wp.skipS | apply Wp.blockS | ((first | apply Wp.regS | apply Wp.condV | apply Wp.reg | apply Wp.condW | apply fin_ret); simp -implicitDefEqProofs (maxSteps := 2000000) (disch := first | exact tt_rfl rfl | omega | (simp only [go_sem] <;> omega) | fail) only [go_sem] <;> try with_reducible rfl) | apply Wp.block | apply Wp.exitS | apply Wp.retS | apply Wp.exit | apply Wp.ret | apply Wp.skip)
     refine ⟨rfl, ?_⟩;simp -implicitDefEqProofs (maxSteps := 2000000) (disch := first | exact tt_rfl rfl | omega | (simp only [go_sem] <;> omega) | fail) only [go_sem, norm_eq, Ok.some]
     try simp
  ·match i, hx with
   | 0, hx =>
    cases hx;refine ⟨.inr (.inr (.inr rfl)), ?_⟩;rw [takeIt_eq];dsimp only [e1L, e2L, List.eraseIdx, List.any, Option.isSome];repeat (first | apply Wp.seqA | apply Wp.skipS | apply Wp.blockS | ((first | apply Wp.regS | apply Wp.condV | apply Wp.reg | apply Wp.condW | apply fin_ret); simp -implicitDefEqProofs (maxSteps := 2000000) (disch := first | exact tt_rfl rfl | omega | (simp only [go_sem] <;> omega) | fail) only [go_sem, h2, hN] <;> try with_reducible rfl) | apply Wp.block | apply Wp.exitS | apply Wp.retS | apply Wp.exit | apply Wp.ret | apply Wp.skip)
    refine Wp.rangeF (fun i fr => fr = ⟨[(1, .ptr 64 0 0), (2, .ptr 128 0 0), (6, .ptr 384 0 0), (23, .itT 1472)], [(64, .box [iv hk, .list 1 rows]), (128, .box [iv (mxF false fw), iv (mxF true fw), iv (mxF true (fh.take i)), iv (mxF false (fh.take i))]), (384, .box [.ptr 128 0 3, .ptr 128 0 2]), (1472, .iter .i64 [] none)], [], 10000000⟩) rfl rfl g2 k2 ?_ ?_ ?_
    ·simp -implicitDefEqProofs (maxSteps := 2000000) (disch := first | exact tt_rfl rfl | omega | (simp only [go_sem] <;> omega) | fail) only [go_sem, norm_eq, Ok.some]
     simp [mxF]
    ·rintro i x fr hx rfl
     have hlt : i < fh.length := by
      rcases Nat.lt_or_ge i fh.length with h | h
      ·exact h
      ·rw [List.getElem?_eq_none (by simpa using h)] at hx; cases hx
     have ex : x = [fh[i].av] := by
      rw [List.getElem?_map, List.getElem?_eq_getElem hlt] at hx;cases hx; rfl
     subst ex;refine ⟨_, rfl, ?_⟩;have m0 := mxF_take (b := false) hlt;have m1 := mxF_take (b := true) hlt;generalize mxF false (fh.take i) = a0 at *;generalize mxF true (fh.take i) = a1 at *;unfold FloatT.av;cases hup : fh[i].up
     ·repeat (first | apply Wp.seqA | apply Wp.skipS | apply Wp.blockS | ((first | apply Wp.regS | apply Wp.condV | apply Wp.reg | apply Wp.condW | apply fin_ret); simp -implicitDefEqProofs (maxSteps := 2000000) (disch := first | exact tt_rfl rfl | omega | (simp only [go_sem] <;> omega) | fail) only [go_sem, hup] <;> try with_reducible rfl) | apply Wp.block | apply Wp.exitS | apply Wp.retS | apply Wp.exit | apply Wp.ret | apply Wp.skip)
      apply block_norm;apply round_next
      ·simp -implicitDefEqProofs (maxSteps := 2000000) (disch := first | exact tt_rfl rfl | omega | (simp only [go_sem] <;> omega) | fail) only [go_sem, norm_eq, Ok.some]; with_reducible rfl
      rw [m0, m1];simp [mxStep, hup]
     ·repeat (first | apply Wp.seqA | apply Wp.skipS | apply Wp.blockS | ((first | apply Wp.regS | apply Wp.condV | apply Wp.reg | apply Wp.condW | apply fin_ret); simp -implicitDefEqProofs (maxSteps := 2000000) (disch := first | exact tt_rfl rfl | omega | (simp only [go_sem] <;> omega) | fail) only [go_sem, hup] <;> try with_reducible rfl) | apply Wp.block | apply Wp.exitS | apply Wp.retS | apply Wp.exit | apply Wp.ret | apply Wp.skip)
      apply block_norm;apply round_next
      ·simp -implicitDefEqProofs (maxSteps := 2000000) (disch := first | exact tt_rfl rfl | omega | (simp only [go_sem] <;> omega) | fail) only [go_sem, norm_eq, Ok.some]; with_reducible rfl
      rw [m0, m1];simp [mxStep, hup]
    ·rintro fr rfl
     rw [show fh.take (fh.map fun f => [f.av]).length = fh by simp]
     repeat (first | apply Wp.seqA | apply Wp.skipS | apply Wp.blockS | ((first | apply Wp.regS | apply Wp.condV | apply Wp.reg | apply Wp.condW | apply fin_ret); simp -implicitDefEqProofs (maxSteps := 2000000) (disch := first | exact tt_rfl rfl | omega | (simp only [go_sem] <;> omega) | fail) only [go_sem] <;> try with_reducible rfl) | apply Wp.block | apply Wp.exitS | apply Wp.retS | apply Wp.exit | apply Wp.ret | apply Wp.skip)
     refine ⟨rfl, ?_⟩;simp -implicitDefEqProofs (maxSteps := 2000000) (disch := first | exact tt_rfl rfl | omega | (simp only [go_sem] <;> omega) | fail) only [go_sem, norm_eq, Ok.some]
     try simp
  ·simp at hx
 ·rw [takeIt_eq]
  dsimp only [e1L, e2L, List.eraseIdx, List.any, Option.isSome];repeat (first | apply Wp.seqA | apply Wp.skipS | apply Wp.blockS | ((first | apply Wp.regS | apply Wp.condV | apply Wp.reg | apply Wp.condW | apply fin_ret); simp -implicitDefEqProofs (maxSteps := 2000000) (disch := first | exact tt_rfl rfl | omega | (simp only [go_sem] <;> omega) | fail) only [go_sem] <;> try with_reducible rfl) | apply Wp.block | apply Wp.exitS | apply Wp.retS | apply Wp.exit | apply Wp.ret | apply Wp.skip)
  refine ⟨by simp, ?_⟩
  repeat (first | apply Wp.seqA | apply Wp.skipS | apply Wp.blockS | ((first | apply Wp.regS | apply Wp.condV | apply Wp.reg | apply Wp.condW | apply fin_ret); simp -implicitDefEqProofs (maxSteps := 2000000) (disch := first | exact tt_rfl rfl | omega | (simp only [go_sem] <;> omega) | fail) only [go_sem] <;> try with_reducible rfl) | apply Wp.block | apply Wp.exitS | apply Wp.retS | apply Wp.exit | apply Wp.ret | apply Wp.skip)
end Go.Abs
