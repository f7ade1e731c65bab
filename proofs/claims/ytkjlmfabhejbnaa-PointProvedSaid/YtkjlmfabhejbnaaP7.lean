/-
 Chapter 1: the windows of a design. No condition beyond those that each theorem names.
-/
import Derived.Test.YtkjlmfabhejbnaaP6
set_option linter.all false
namespace Go.Abs
set_option maxRecDepth 10000
set_option maxHeartbeats 4000000

/-- the windows of a float -/
def winAt (hk b : Nat) (f : FloatT) (i : Nat) : FloatT := ⟨f.pick, (((f.hook.toNat + i * (b + 1)) % hk : Nat) : Int), ((b + 1 : Nat) : Int), f.up⟩
def winN (hk b : Nat) (f : FloatT) : Nat := min f.len.toNat hk / (b + 1)
def winTo (hk b : Nat) (f : FloatT) (k : Nat) : List FloatT := (List.range k).map (winAt hk b f)
def winT (hk b : Nat) (f : FloatT) : List FloatT := winTo hk b f (winN hk b f)
theorem winTo_succ (hk b : Nat) (f : FloatT) (k : Nat) : winTo hk b f (k + 1) = winTo hk b f k ++ [winAt hk b f k] := by
 unfold winTo; rw [List.range_succ]; simp
def winsV (hk b : Nat) (l : List FloatT) : List AV := (l.flatMap (winT hk b)).map FloatT.av
theorem winN_le (hk b : Nat) (f : FloatT) : winN hk b f ≤ hk := by
 unfold winN
 exact Nat.le_trans (Nat.div_le_self _ _) (Nat.min_le_right _ _)
theorem wins_len (hk b : Nat) (l : List FloatT) : (l.flatMap (winT hk b)).length ≤ l.length * hk := by
 induction l with
 | nil => simp
 | cons f l ih =>
  rw [List.flatMap_cons, List.length_append, List.length_cons, Nat.add_mul]
  have : (winT hk b f).length ≤ hk := by
   unfold winT winTo; rw [List.length_map, List.length_range]; exact winN_le _ _ _
  omega
theorem wins_take {hk b : Nat} {l : List FloatT} {j : Nat} (h : j < l.length) : winsV hk b (l.take (j + 1)) = winsV hk b (l.take j) ++ (winT hk b l[j]).map FloatT.av := by
 unfold winsV
 rw [List.take_succ_eq_append_getElem h, List.flatMap_append, List.map_append]; simp

theorem Proof_ok (d : DesN) (hd : d.Ok) (b : Nat) (hb : 1 ≤ b ∧ b ≤ 24) : lim F 31 [d.av, iv (b : Int)] = some (.tuple [.own 4 (winsV d.hk b (weftF d)), iv 0], []) := by
 have h60 := hd.r60
 have h24 := hd.h24
 have h1 := hd.h1
 have hc := Check_ok d.a (by simp [DesN.a]; omega)
 rw [checkD_ok hd, DesN.a_av] at hc
 have hw := within_one 1 24 (b : Int)
 rw [decide_eq_true (show (1 : Int) ≤ b ∧ (b : Int) ≤ 24 by omega)] at hw
 have hF := floats1_ok d
 have hg := weft_guess d hd
 have hk := weft_check d hd
 have hfl := weft_len hd
 have hfi : ∀ i (h : i < (weftF d).length), FIn d.rows.length d.hk (weftF d)[i] := fun i h => weft_in hd (List.getElem_mem h)
 unfold DesN.av at *
 generalize d.rows.map (fun n : Nat => iv (n : Int)) = rs at *
 generalize weftF d = FL at *
 generalize d.hk = H at *
 refine lim_by (fn := a31) (k := 2) (res := [.cell 4 1 false, .tmp 5]) rfl rfl rfl (by simp -implicitDefEqProofs (maxSteps := 2000000) (disch := first | exact tt_rfl rfl | omega | (simp only [go_sem] <;> omega) | fail) only [go_sem]) ?_
 simp -implicitDefEqProofs (maxSteps := 2000000) (disch := first | exact tt_rfl rfl | omega | (simp only [go_sem] <;> omega) | fail) only [go_sem]
 repeat (first | apply Wp.seqA | apply Wp.skipS | apply Wp.blockS | ((first | apply Wp.regS | apply Wp.condV | apply Wp.reg | apply Wp.condW | apply fin_ret); simp -implicitDefEqProofs (maxSteps := 2000000) (disch := first | exact tt_rfl rfl | omega | (simp only [go_sem] <;> omega) | fail) only [go_sem, hc, hw, hF] <;> try with_reducible rfl) | apply Wp.block | apply Wp.exitS | apply Wp.retS | apply Wp.exit | apply Wp.ret | apply Wp.skip)
 refine Wp.rangeF (fun i fr => fr = ⟨[(2, .ptr 128 0 0), (3, .ptr 192 0 0), (4, .ptr 256 0 0)], [(128, .box [iv (H : Int), .list 1 rs]), (192, .box [iv (b : Int)]), (256, .box [.slice 304096 0 (winsV H b (FL.take i)).length]), (304096, .arr 4 (winsV H b (FL.take i)))], [], 10000000⟩) rfl rfl hg hk ?_ ?_ ?_
 ·simp -implicitDefEqProofs (maxSteps := 2000000) (disch := first | exact tt_rfl rfl | omega | (simp only [go_sem] <;> omega) | fail) only [go_sem, norm_eq, Ok.some]
  try rfl
 ·rintro j x fr hx rfl
  have hlt : j < FL.length := by
   rcases Nat.lt_or_ge j FL.length with h | h
   ·exact h
   ·rw [List.getElem?_eq_none (by simpa using h)] at hx; cases hx
  have ex : x = fV FL[j] := by
   rw [List.getElem?_map, List.getElem?_eq_getElem hlt] at hx
   cases hx; rfl
  subst ex
  refine ⟨_, rfl, ?_⟩
  have hs := wins_take (hk := H) (b := b) hlt
  have hl : (winsV H b (FL.take j)).length ≤ 60000 * 24 := by
   have h1 := wins_len H b (FL.take j)
   rw [List.length_take] at h1
   have h2 : min j FL.length * H ≤ 60000 * 24 := Nat.mul_le_mul (by omega) (by omega)
   unfold winsV
   rw [List.length_map]; omega
  have hfn := hfi j hlt
  generalize FL[j] = f at *
  generalize winsV H b (FL.take j) = es at *
  generalize winsV H b (FL.take (j + 1)) = es' at *
  obtain ⟨⟨p0, p1⟩, ⟨k0, k1⟩, l0, l1⟩ := hfn
  unfold FloatT.av
  have hN := winN_le H b f
  have e1 : Int.tdiv (min f.len (H : Int)) ((b : Int) + 1) = ((winN H b f : Nat) : Int) := by
   rw [Int.tdiv_eq_ediv_of_nonneg (by omega)]
   unfold winN
   have : min f.len (H : Int) = ((min f.len.toNat H : Nat) : Int) := by omega
   rw [this, show (b : Int) + 1 = ((b + 1 : Nat) : Int) by omega, ← Int.natCast_ediv]
  have hes : winT H b f = winTo H b f (winN H b f) := rfl
  rw [hes] at hs
  generalize winN H b f = n at *
  repeat (first | apply Wp.seqA | apply Wp.skipS | apply Wp.blockS | ((first | apply Wp.regS | apply Wp.condV | apply Wp.reg | apply Wp.condW | apply fin_ret); simp -implicitDefEqProofs (maxSteps := 2000000) (disch := first | exact tt_rfl rfl | omega | (simp only [go_sem] <;> omega) | fail) only [go_sem, e1, show (b : Int) + 1 ≠ 0 by omega] <;> try with_reducible rfl) | apply Wp.block | apply Wp.exitS | apply Wp.retS | apply Wp.exit | apply Wp.ret | apply Wp.skip)
  apply Wp.loopF n (fun k => ⟨[(2, .ptr 128 0 0), (3, .ptr 192 0 0), (4, .ptr 256 0 0), (7, .ptr 448 0 0), (29, iv (n : Int)), (30, iv (k : Int))], [(128, .box [iv (H : Int), .list 1 rs]), (192, .box [iv (b : Int)]), (256, .box [.slice 304096 0 (es ++ (winTo H b f k).map FloatT.av).length]), (448, .box [iv f.pick, iv f.hook, iv f.len, .bool f.up]), (304096, .arr 4 (es ++ (winTo H b f k).map FloatT.av))], [], 10000000⟩) (fun _ => True)
  ·simp -implicitDefEqProofs (maxSteps := 2000000) (disch := first | exact tt_rfl rfl | omega | (simp only [go_sem] <;> omega) | fail) only [go_sem, norm_eq, Ok.some]
   simp [winTo]
  ·trivial
  intro k hk2 _
  by_cases h : k < n
  ·have e2 : Int.tmod (f.hook + (k : Int) * ((b : Int) + 1)) (H : Int) = (((f.hook.toNat + k * (b + 1)) % H : Nat) : Int) := by
    have : f.hook + (k : Int) * ((b : Int) + 1) = ((f.hook.toNat + k * (b + 1) : Nat) : Int) := by
     rw [Int.natCast_add, Int.natCast_mul, Int.natCast_add, Int.toNat_of_nonneg k0]; rfl
    rw [this, Int.tmod_eq_emod_of_nonneg (Int.natCast_nonneg _)]; simp
   have hm : k * (b + 1) ≤ 24 * 25 := Nat.mul_le_mul (by omega) (by omega)
   have hm2 : (k : Int) * ((b : Int) + 1) = ((k * (b + 1) : Nat) : Int) := by rw [Int.natCast_mul, Int.natCast_add]; rfl
   have hs2 : es ++ (winTo H b f (k + 1)).map FloatT.av = es ++ (winTo H b f k).map FloatT.av ++ [.agg [iv f.pick, iv (((f.hook.toNat + k * (b + 1)) % H : Nat) : Int), iv ((b : Int) + 1), .bool f.up]] := by
    rw [winTo_succ, List.map_append, ← List.append_assoc]; rfl
   have hl3 : (es ++ (winTo H b f k).map FloatT.av).length ≤ 60000 * 24 + 24 := by
    rw [List.length_append, List.length_map]; unfold winTo; rw [List.length_map, List.length_range]; omega
   generalize es ++ (winTo H b f k).map FloatT.av = fs at *
   generalize es ++ (winTo H b f (k + 1)).map FloatT.av = fs' at *
   generalize hz : (f.hook.toNat + k * (b + 1)) % H = z at *
   generalize k * (b + 1) = kb at *
   rw [hm2] at e2
   repeat (first | apply Wp.seqA | apply Wp.skipS | apply Wp.blockS | ((first | apply Wp.regS | apply Wp.condV | apply Wp.reg | apply Wp.condW | apply fin_ret); simp -implicitDefEqProofs (maxSteps := 2000000) (disch := first | exact tt_rfl rfl | omega | (simp only [go_sem] <;> omega) | fail) only [go_sem, h, Int.ofNat_lt, hm2, e2, show (H : Int) ≠ 0 by omega] <;> try with_reducible rfl) | apply Wp.block | apply Wp.exitS | apply Wp.retS | apply Wp.exit | apply Wp.ret | apply Wp.skip)
   apply round_next
   ·simp -implicitDefEqProofs (maxSteps := 2000000) (disch := first | exact tt_rfl rfl | omega | (simp only [go_sem] <;> omega) | fail) only [go_sem, norm_eq, Ok.some]; with_reducible rfl
   refine ⟨h, ?_, trivial⟩
   rw [hs2]
   simp
  ·obtain rfl : k = n := by omega
   rw [← hs]
   repeat (first | apply Wp.seqA | apply Wp.skipS | apply Wp.blockS | ((first | apply Wp.regS | apply Wp.condV | apply Wp.reg | apply Wp.condW | apply fin_ret); simp -implicitDefEqProofs (maxSteps := 2000000) (disch := first | exact tt_rfl rfl | omega | (simp only [go_sem] <;> omega) | fail) only [go_sem, Int.lt_irrefl] <;> try with_reducible rfl) | apply Wp.block | apply Wp.exitS | apply Wp.retS | apply Wp.exit | apply Wp.ret | apply Wp.skip)
   apply round_exit
   apply block_norm
   apply round_next
   ·simp -implicitDefEqProofs (maxSteps := 2000000) (disch := first | exact tt_rfl rfl | omega | (simp only [go_sem] <;> omega) | fail) only [go_sem, norm_eq, Ok.some]; with_reducible rfl
   rfl
 ·rintro fr rfl
  have e : FL.take (FL.map fV).length = FL := by rw [List.length_map, List.take_length]
  rw [e]
  have hp := fl_plain (FL.flatMap (winT H b))
  change (winsV H b FL).all AV.plain = true at hp
  generalize winsV H b FL = es at *
  repeat (first | apply Wp.seqA | apply Wp.skipS | apply Wp.blockS | ((first | apply Wp.regS | apply Wp.condV | apply Wp.reg | apply Wp.condW | apply fin_ret); simp -implicitDefEqProofs (maxSteps := 2000000) (disch := first | exact tt_rfl rfl | omega | (simp only [go_sem] <;> omega) | fail) only [go_sem, List.take_length, hp] <;> try with_reducible rfl) | apply Wp.block | apply Wp.exitS | apply Wp.retS | apply Wp.exit | apply Wp.ret | apply Wp.skip)
theorem Proof_bad (d : DesA) (hl : d.rows.length ≤ 1000000) (b : Int) (e : Int) (he : e ≠ 0) (h : e = if checkD d ≠ 0 then checkD d else if ¬ (1 ≤ b ∧ b ≤ 24) then 3 else 0) : lim F 31 [d.av, iv b] = some (.tuple [.own 4 [], iv e], []) := by
 have hc := Check_ok d hl
 have hw := within_one 1 24 b
 unfold DesA.av at *
 by_cases h1 : checkD d = 0
 ·rw [h1] at hc
  rw [if_neg (by simpa using h1)] at h
  have h3 : ¬ (1 ≤ b ∧ b ≤ 24) := by
   intro h3; rw [if_neg (by simpa using h3)] at h; exact he h
  rw [if_pos h3] at h
  rw [decide_eq_false h3] at hw
  refine lim_by (fn := a31) (k := 2) (res := [.cell 4 1 false, .tmp 5]) rfl rfl rfl (by simp -implicitDefEqProofs (maxSteps := 2000000) (disch := first | exact tt_rfl rfl | omega | (simp only [go_sem] <;> omega) | fail) only [go_sem]) ?_
  simp -implicitDefEqProofs (maxSteps := 2000000) (disch := first | exact tt_rfl rfl | omega | (simp only [go_sem] <;> omega) | fail) only [go_sem]
  repeat (first | apply Wp.seqA | apply Wp.skipS | apply Wp.blockS | ((first | apply Wp.regS | apply Wp.condV | apply Wp.reg | apply Wp.condW | apply fin_ret); simp -implicitDefEqProofs (maxSteps := 2000000) (disch := first | exact tt_rfl rfl | omega | (simp only [go_sem] <;> omega) | fail) only [go_sem, hc, hw] <;> try with_reducible rfl) | apply Wp.block | apply Wp.exitS | apply Wp.retS | apply Wp.exit | apply Wp.ret | apply Wp.skip)
  rw [h]
 ·rw [if_pos h1] at h
  rw [h]
  generalize checkD d = c at *
  refine lim_by (fn := a31) (k := 2) (res := [.cell 4 1 false, .tmp 5]) rfl rfl rfl (by simp -implicitDefEqProofs (maxSteps := 2000000) (disch := first | exact tt_rfl rfl | omega | (simp only [go_sem] <;> omega) | fail) only [go_sem]) ?_
  simp -implicitDefEqProofs (maxSteps := 2000000) (disch := first | exact tt_rfl rfl | omega | (simp only [go_sem] <;> omega) | fail) only [go_sem]
  repeat (first | apply Wp.seqA | apply Wp.skipS | apply Wp.blockS | ((first | apply Wp.regS | apply Wp.condV | apply Wp.reg | apply Wp.condW | apply fin_ret); simp -implicitDefEqProofs (maxSteps := 2000000) (disch := first | exact tt_rfl rfl | omega | (simp only [go_sem] <;> omega) | fail) only [go_sem, hc, h1] <;> try with_reducible rfl) | apply Wp.block | apply Wp.exitS | apply Wp.retS | apply Wp.exit | apply Wp.ret | apply Wp.skip)
end Go.Abs
