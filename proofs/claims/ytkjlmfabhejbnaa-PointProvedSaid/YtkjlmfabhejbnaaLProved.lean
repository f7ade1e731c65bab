/-
 PointProved: the windows of Proof lie apart, each in one float; and where no row is endless, Bind needs as many changes.
-/
import Derived.Test.YtkjlmfabhejbnaaM17
import Derived.Test.YtkjlmfabhejbnaaV0
import Derived.Test.YtkjlmfabhejbnaaB4
set_option linter.all false
namespace Go.Abs
set_option maxRecDepth 10000
set_option maxHeartbeats 8000000

theorem WinIs.lift {d : DesN} (hd : d.Ok) {b i a : Nat} {f : FloatT} (h : WinIs d b f i a) {k : Nat} (hk : k ≤ b) : atN d i ((a + k) % d.hk) = f.up := by
 have h0 : 0 < (pickR d i).length := by rw [pickR_len]; exact hd.h1
 rw [h.up, ← win_same h0 h.ha hk, ← gb_mod, pickR_len, atN_pick hd h.hi]
def yesV (l : List (Nat × Nat)) : List AV := l.map fun _ => .bool true
theorem ptV_snoc (l : List (Nat × Nat)) (q : Nat × Nat) : (l ++ [q]).map ptV = l.map ptV ++ [[iv (q.1 : Int), iv (q.2 : Int)]] := by rw [List.map_append]; rfl
theorem yesV_snoc (l : List (Nat × Nat)) (q : Nat × Nat) : yesV (l ++ [q]) = yesV l ++ [.bool true] := by unfold yesV; rw [List.map_append]; rfl

theorem proved_main (kn : lim F 15 [] = some (.bool true, [])) (x : PaperB) (by0 : Nat) (h0 : by0 < 256) : lim F 8 [x.av, .int .u8 (by0 : Int)] = some (.bool true, []) := by
 have d1 := design_ok x 24 (by omega) (by omega)
 rw [show ((24 : Nat) : Int) = 24 from rfl] at d1
 have hd := paper_ok x (m := 24) (by omega) (by omega)
 have h20 := paper_rows x 24
 change lim F _ _ = some (AV.agg [_, .own 1 (natsV (paperN x 24).rows)], []) at d1
 generalize paperN x 24 = d at *
 have h24 := hd.h24
 have hr1 := hd.r1
 have hh1 := hd.h1
 have em : Int.tmod (by0 : Int) 7 = ((by0 % 7 : Nat) : Int) := by rw [Int.tmod_eq_emod_of_nonneg (Int.natCast_nonneg _)]; simp
 have hb7 : by0 % 7 < 7 := Nat.mod_lt _ (by omega)
 generalize by0 % 7 = tb at *
 have hln : (natsV d.rows).length = d.rows.length := by simp
 have hpl : (natsV d.rows).all AV.plain = true := nat_plain d.rows
 have htk : (natsV d.rows).take d.rows.length = natsV d.rows := List.take_of_length_le (by omega)
 have hpw : 2 ^ d.hk ≤ 2 ^ 24 := Nat.pow_le_pow_right (by omega) (by omega)
 have hpw0 : 0 < 2 ^ d.hk := Nat.pow_pos (by omega)
 have s1 := w_shl1 d.hk (by omega)
 have u1 : IntKind.wrap .u64 (d.hk : Int) = d.hk := wrap_u64 (by omega) (by omega)
 have hf := zeroF_ok d
 have hO := ownDes_ok d hd
 have hP := Proof_ok d hd (2 + tb) (by omega)
 have hbI : 2 + (tb : Int) = ((2 + tb : Nat) : Int) := by omega
 have hLf := lifted_ok d hd
 have hrg : ∀ i, i < d.rows.length → (natsV d.rows)[i]? = some (iv ((d.rows.getD i 0 : Nat) : Int)) := fun i hi => nats_at hi
 unfold desV at hO hLf
 change lim F _ [.agg [_, .list 1 (natsV d.rows)], _] = _ at hP
 have hbr : 2 ≤ 2 + tb ∧ 2 + tb ≤ 24 := by omega
 have hwl := winsD_len hd (2 + tb)
 have hwv : winsV d.hk (2 + tb) (weftF d) = (winsD d (2 + tb)).map FloatT.av := rfl
 have hwp : (winsV d.hk (2 + tb) (weftF d)).all AV.plain = true := fl_plain ((weftF d).flatMap (winT d.hk (2 + tb)))
 have hwlen : (winsV d.hk (2 + tb) (weftF d)).length = (winsD d (2 + tb)).length := by rw [hwv]; simp
 have hL20 : d.rows.length * 24 ≤ 20 * 24 := Nat.mul_le_mul_right _ h20
 unfold PaperB.av at *
 generalize hws : winsV d.hk (2 + tb) (weftF d) = ws at *
 generalize hbq : 2 + tb = b at *
 have hwg : ∀ t (h : t < (winsD d b).length), ws[t]? = some (.agg [iv ((winsD d b)[t]).pick, iv ((winsD d b)[t]).hook, iv ((winsD d b)[t]).len, .bool ((winsD d b)[t]).up]) := fun t h => by
  rw [hwv, List.getElem?_map, List.getElem?_eq_getElem h]; rfl
 have hzl : (natsV (zeroF d)) = List.replicate d.rows.length (iv 0) := by simp [zeroF, natsV]
 have hB := fun h => Bind_ok d hd (zeroF d) hf b (by omega) _ (fun _ => rfl) (fun h' => absurd h h')
 change ∀ h, lim F _ [.agg [_, .list 1 (natsV d.rows)], .list 1 (natsV (zeroF d)), _] = _ at hB
 have hpa := prove_all hd (b := b) (by omega)
 generalize hrsq : natsV d.rows = rs at *
 refine lim_by (fn := a8) (k := 2) (res := [.tmp 4]) rfl rfl rfl (by simp -implicitDefEqProofs (maxSteps := 2000000) (disch := first | exact tt_rfl rfl | omega | (simp only [go_sem] <;> omega) | fail) only [go_sem]) ?_
 simp -implicitDefEqProofs (maxSteps := 2000000) (disch := first | exact tt_rfl rfl | omega | (simp only [go_sem] <;> omega) | fail) only [go_sem]
 repeat (first | apply Wp.seqA | apply Wp.skipS | apply Wp.blockS | ((first | apply Wp.regS | apply Wp.condV | apply Wp.reg | apply Wp.condW | apply fin_ret); simp -implicitDefEqProofs (maxSteps := 2000000) (disch := first | exact tt_rfl rfl | omega | (simp only [go_sem] <;> omega) | fail) only [go_sem, d1, em, hbI, hO, hP, hln, hpl, htk, hwp, hwlen, show ¬ (1000 : Int) < ((winsD d b).length : Int) by omega] <;> try with_reducible rfl) | apply Wp.block | apply Wp.exitS | apply Wp.retS | apply Wp.exit | apply Wp.ret | apply Wp.skip)
 apply Wp.loopF (winsD d b).length (fun t => ⟨[(5, .ptr 320 0 0), (6, iv (b : Int)), (7, .slice 448 0 (winsD d b).length), (9, .mapp 576), (10, iv (t : Int))], [(320, .box [iv (d.hk : Int), .slice 305121 0 d.rows.length]), (448, .arr 4 ws), (576, .mpS [true, true] ((winsP d b t).map ptV) (yesV (winsP d b t))), (305121, .arr 1 rs)], [], 10000000⟩) (fun _ => True)
 ·simp -implicitDefEqProofs (maxSteps := 2000000) (disch := first | exact tt_rfl rfl | omega | (simp only [go_sem] <;> omega) | fail) only [go_sem, norm_eq, Ok.some]
  rfl
 ·trivial
 intro t ht _
 by_cases h : t < (winsD d b).length
 ·have h1 := hwg t h
  obtain ⟨i, a, hw⟩ := win_is hd (List.getElem_mem h)
  have hwl2 := win_lt (l := pickR d i) (by rw [pickR_len]; exact hd.h1) hw.ha
  rw [pickR_len] at hwl2
  have hi := hw.hi
  have hpn := fun k (hk : k ≤ b) => pt_new hd h hk
  have hnx := winsP_succ h
  have hlf := fun k (hk : k ≤ b) => hw.lift hd hk
  rw [hw.pick, hw.hook, hw.len] at h1
  have hpk : (winsD d b)[t].pick.toNat = i := by rw [hw.pick]; rfl
  have hhk : (winsD d b)[t].hook.toNat = a := by rw [hw.hook]; rfl
  have hsn := winP_succ d.hk b (winsD d b)[t]
  rw [hpk, hhk] at hpn hsn
  generalize (winsD d b)[t] = f at *
  have e1 : (b : Int) + 1 = ((b + 1 : Nat) : Int) := by omega
  repeat (first | apply Wp.seqA | apply Wp.skipS | apply Wp.blockS | ((first | apply Wp.regS | apply Wp.condV | apply Wp.reg | apply Wp.condW | apply fin_ret); simp -implicitDefEqProofs (maxSteps := 2000000) (disch := first | exact tt_rfl rfl | omega | (simp only [go_sem] <;> omega) | fail) only [go_sem, h, Int.ofNat_lt, hwlen, h1, hln, e1, show ¬ (i : Int) < 0 by omega, show ¬ (d.rows.length : Int) ≤ (i : Int) by omega, show ¬ (a : Int) < 0 by omega, show ¬ (d.hk : Int) ≤ (a : Int) by omega, Int.toNat_natCast] <;> try with_reducible rfl) | apply Wp.block | apply Wp.exitS | apply Wp.retS | apply Wp.exit | apply Wp.ret | apply Wp.skip)
  apply Wp.loopF (b + 1) (fun k => ⟨[(5, .ptr 320 0 0), (6, iv (b : Int)), (7, .slice 448 0 (winsD d b).length), (9, .mapp 576), (10, iv (t : Int)), (11, iv (k : Int))], [(320, .box [iv (d.hk : Int), .slice 305121 0 d.rows.length]), (448, .arr 4 ws), (576, .mpS [true, true] ((winsP d b t ++ winP d.hk b f k).map ptV) (yesV (winsP d b t ++ winP d.hk b f k))), (305121, .arr 1 rs)], [], 10000000⟩) (fun _ => True)
  ·simp -implicitDefEqProofs (maxSteps := 2000000) (disch := first | exact tt_rfl rfl | omega | (simp only [go_sem] <;> omega) | fail) only [go_sem, norm_eq, Ok.some]
   simp [winP]
  ·trivial
  intro k hk _
  by_cases hkb : k < b + 1
  ·have hf1 := findP (i, (a + k) % d.hk) _ 0 (hpn k (by omega))
   have e2 : Int.tmod ((a : Int) + (k : Int)) (d.hk : Int) = (((a + k) % d.hk : Nat) : Int) := by
    rw [← Int.natCast_add, Int.tmod_eq_emod_of_nonneg (Int.natCast_nonneg _)]; simp
   have hl1 := hLf i ((a + k) % d.hk) (by omega) (by have := Nat.mod_lt (a + k) (show 0 < d.hk by omega); omega)
   rw [hlf k (by omega)] at hl1
   have hs := hsn k
   have ek := ptV_snoc (winsP d b t ++ winP d.hk b f k) (i, (a + k) % d.hk)
   have ey := yesV_snoc (winsP d b t ++ winP d.hk b f k) (i, (a + k) % d.hk)
   rw [List.append_assoc, ← hs] at ek ey
   clear hpn hsn hlf hwg hLf hrg hB hpa
   dsimp only at *
   generalize (winsP d b t ++ winP d.hk b f (k + 1)).map ptV = kk' at *
   generalize yesV (winsP d b t ++ winP d.hk b f (k + 1)) = yy' at *
   generalize (winsP d b t ++ winP d.hk b f k).map ptV = kk at *
   generalize yesV (winsP d b t ++ winP d.hk b f k) = yy at *
   generalize (a + k) % d.hk = ak at *
   generalize f.up = up at *
   repeat (first | apply Wp.seqA | apply Wp.skipS | apply Wp.blockS | ((first | apply Wp.regS | apply Wp.condV | apply Wp.reg | apply Wp.condW | apply fin_ret); simp -implicitDefEqProofs (maxSteps := 2000000) (disch := first | exact tt_rfl rfl | omega | (simp only [go_sem] <;> omega) | fail) only [go_sem, h, Int.ofNat_lt, hwlen, h1, hln, hpl, htk, e2, hf1, hl1, show (k : Int) ≤ (b : Int) by omega, show (d.hk : Int) ≠ 0 by omega, Int.toNat_natCast] <;> try with_reducible rfl) | apply Wp.block | apply Wp.exitS | apply Wp.retS | apply Wp.exit | apply Wp.ret | apply Wp.skip)
   apply round_next
   ·simp -implicitDefEqProofs (maxSteps := 2000000) (disch := first | exact tt_rfl rfl | omega | (simp only [go_sem] <;> omega) | fail) only [go_sem, norm_eq, Ok.some]; with_reducible rfl
   refine ⟨hkb, ?_, trivial⟩
   rw [ek, ey]
   simp
  ·obtain rfl : k = b + 1 := by omega
   repeat (first | apply Wp.seqA | apply Wp.skipS | apply Wp.blockS | ((first | apply Wp.regS | apply Wp.condV | apply Wp.reg | apply Wp.condW | apply fin_ret); simp -implicitDefEqProofs (maxSteps := 2000000) (disch := first | exact tt_rfl rfl | omega | (simp only [go_sem] <;> omega) | fail) only [go_sem, show ¬ ((b + 1 : Nat) : Int) ≤ (b : Int) by omega] <;> try with_reducible rfl) | apply Wp.block | apply Wp.exitS | apply Wp.retS | apply Wp.exit | apply Wp.ret | apply Wp.skip)
   apply round_next
   ·simp -implicitDefEqProofs (maxSteps := 2000000) (disch := first | exact tt_rfl rfl | omega | (simp only [go_sem] <;> omega) | fail) only [go_sem, norm_eq, Ok.some]; with_reducible rfl
   refine ⟨h, ?_, trivial⟩
   rw [hnx]
   simp
 ·obtain rfl : t = (winsD d b).length := by omega
  repeat (first | apply Wp.seqA | apply Wp.skipS | apply Wp.blockS | ((first | apply Wp.regS | apply Wp.condV | apply Wp.reg | apply Wp.condW | apply fin_ret); simp -implicitDefEqProofs (maxSteps := 2000000) (disch := first | exact tt_rfl rfl | omega | (simp only [go_sem] <;> omega) | fail) only [go_sem, Int.lt_irrefl, hwlen] <;> try with_reducible rfl) | apply Wp.block | apply Wp.exitS | apply Wp.retS | apply Wp.exit | apply Wp.ret | apply Wp.skip)
  clear hwg hLf
  apply Wp.loopF d.rows.length (fun i => ⟨[(5, .ptr 320 0 0), (6, iv (b : Int)), (7, .slice 448 0 (winsD d b).length), (13, iv (i : Int))], [(320, .box [iv (d.hk : Int), .slice 305121 0 d.rows.length]), (448, .arr 4 ws), (305121, .arr 1 rs)], [], 10000000⟩) (fun i => ∀ j, j < i → d.rows.getD j 0 ≠ 0 ∧ d.rows.getD j 0 ≠ 2 ^ d.hk - 1)
  ·simp -implicitDefEqProofs (maxSteps := 2000000) (disch := first | exact tt_rfl rfl | omega | (simp only [go_sem] <;> omega) | fail) only [go_sem, norm_eq, Ok.some]
   rfl
  ·intro j hj; omega
  intro i hi hno
  by_cases h : i < d.rows.length
  ·have g1 := hrg i h
   have e3 : ((2 ^ d.hk : Nat) : Int) - 1 = ((2 ^ d.hk - 1 : Nat) : Int) := by omega
   clear hB hpa hrg
   by_cases h1 : d.rows.getD i 0 = 0
   ·rw [h1] at g1
    repeat (first | apply Wp.seqA | apply Wp.skipS | apply Wp.blockS | ((first | apply Wp.regS | apply Wp.condV | apply Wp.reg | apply Wp.condW | apply fin_ret); simp -implicitDefEqProofs (maxSteps := 2000000) (disch := first | exact tt_rfl rfl | omega | (simp only [go_sem] <;> omega) | fail) only [go_sem, h, Int.ofNat_lt, hln, g1, Int.natCast_zero, kn, Int.toNat_natCast] <;> try with_reducible rfl) | apply Wp.block | apply Wp.exitS | apply Wp.retS | apply Wp.exit | apply Wp.ret | apply Wp.skip)
   ·by_cases h2 : d.rows.getD i 0 = 2 ^ d.hk - 1
    ·rw [h2] at g1 h1
     generalize 2 ^ d.hk = pw at *
     repeat (first | apply Wp.seqA | apply Wp.skipS | apply Wp.blockS | ((first | apply Wp.regS | apply Wp.condV | apply Wp.reg | apply Wp.condW | apply fin_ret); simp -implicitDefEqProofs (maxSteps := 2000000) (disch := first | exact tt_rfl rfl | omega | (simp only [go_sem] <;> omega) | fail) only [go_sem, h, Int.ofNat_lt, hln, g1, u1, s1, e3, show ¬ ((pw - 1 : Nat) : Int) = 0 by omega, kn, Int.toNat_natCast] <;> try with_reducible rfl) | apply Wp.block | apply Wp.exitS | apply Wp.retS | apply Wp.exit | apply Wp.ret | apply Wp.skip)
    ·have hnx : ∀ j, j < i + 1 → d.rows.getD j 0 ≠ 0 ∧ d.rows.getD j 0 ≠ 2 ^ d.hk - 1 := fun j hj => by
      rcases Nat.lt_or_ge j i with h' | h'
      ·exact hno j h'
      ·obtain rfl : j = i := by omega
       exact ⟨h1, h2⟩
     generalize d.rows.getD i 0 = r at *
     generalize hpq : 2 ^ d.hk = pw at *
     repeat (first | apply Wp.seqA | apply Wp.skipS | apply Wp.blockS | ((first | apply Wp.regS | apply Wp.condV | apply Wp.reg | apply Wp.condW | apply fin_ret); simp -implicitDefEqProofs (maxSteps := 2000000) (disch := first | exact tt_rfl rfl | omega | (simp only [go_sem] <;> omega) | fail) only [go_sem, h, Int.ofNat_lt, hln, g1, u1, s1, e3, show ¬ (r : Int) = ((pw - 1 : Nat) : Int) by omega, show ¬ (r : Int) = 0 by omega, Int.toNat_natCast] <;> try with_reducible rfl) | apply Wp.block | apply Wp.exitS | apply Wp.retS | apply Wp.exit | apply Wp.ret | apply Wp.skip)
     apply round_next
     ·simp -implicitDefEqProofs (maxSteps := 2000000) (disch := first | exact tt_rfl rfl | omega | (simp only [go_sem] <;> omega) | fail) only [go_sem, norm_eq, Ok.some]; with_reducible rfl
     exact ⟨h, by simp, hnx⟩
  ·obtain rfl : i = d.rows.length := by omega
   obtain ⟨hall, hsum⟩ := hpa hno
   have hB := hB hall
   rw [hsum, hzl] at hB
   have hR := right_ok (bindN d (zeroF d) b) (bindN_ok hd (by omega) hall)
   rw [bindN_len] at hR
   unfold desV at hR
   rw [show (bindN d (zeroF d) b).hk = d.hk from rfl] at hR
   have hap : (natsV (bindN d (zeroF d) b).rows).all AV.plain = true := nat_plain (bindN d (zeroF d) b).rows
   have hal : (natsV (bindN d (zeroF d) b).rows).length = d.rows.length := by simp [bindN]
   have hnt : (natsV (bindN d (zeroF d) b).rows).take d.rows.length = natsV (bindN d (zeroF d) b).rows := List.take_of_length_le (by omega)
   have hrp : ((List.replicate d.rows.length (iv 0)).all AV.plain) = true := by rw [← hzl]; exact nat_plain (zeroF d)
   have hrl : (List.replicate d.rows.length (iv 0)).length = d.rows.length := List.length_replicate
   have hrt : (List.replicate d.rows.length (iv 0)).take d.rows.length = List.replicate d.rows.length (iv 0) := List.take_of_length_le (by omega)
   generalize natsV (bindN d (zeroF d) b).rows = ns at *
   generalize hzr : List.replicate d.rows.length (iv 0) = zs at *
   repeat (first | apply Wp.seqA | apply Wp.skipS | apply Wp.blockS | ((first | apply Wp.regS | apply Wp.condV | apply Wp.reg | apply Wp.condW | apply fin_ret); simp -implicitDefEqProofs (maxSteps := 2000000) (disch := first | exact tt_rfl rfl | omega | (simp only [go_sem] <;> omega) | fail) only [go_sem, hO, hB, hR, hln, hpl, htk, hal, hap, hnt, hzr, hrp, hrl, hrt, Int.lt_irrefl, kn, hwlen] <;> try with_reducible rfl) | apply Wp.block | apply Wp.exitS | apply Wp.retS | apply Wp.exit | apply Wp.ret | apply Wp.skip)
end Go.Abs
