/-
 Several texts: LOwn, LTruth, LTruthT.
-/
import Derived.Test.YtodpkfillohplaaDoorX28
import Derived.Test.YtodpkfillohplaaDoorW5
import Derived.Test.YtodpkfillohplaaDoorY15
import Derived.Test.YtodpkfillohplaaDoorKnown
set_option linter.all false
namespace Go.Abs
set_option maxRecDepth 10000
set_option maxHeartbeats 8000000

theorem ownS_ok {l : List DesN} {hk n : Nat} (h : SetsOk l hk n) : lim F 15 [.list 2 (l.map setV)] = some (.ownT 2 (l.map tvN), []) := by
 have h10 := h.l10
 exact ownN_ok l (by omega) (fun d hd => by have := (h.ok d hd).r60; omega)
theorem tvN_fe (l : List DesN) : (l.map tvN).map AV.tabFe = l.map setV := by
 rw [List.map_map]; rfl
end Go.Abs

set_option linter.all false
namespace Go.Abs
set_option maxRecDepth 10000
set_option maxHeartbeats 8000000

/-- a set of the original's size -/
theorem like_agg {x : PressB} {d : DesN} (h : LikeO x d) : setV d = .agg [iv ((origN x).hk : Int), .list 1 (natsV d.rows)] := by
 unfold setV; rw [h.hk]
theorem first_like (x : PressB) {N : Nat} (hS : SetsOk (madeTo x N).l (origN x).hk (origN x).rows.length) : LikeO x (firstN (wayB x) (origN x).hk (origN x).rows.length (madeTo x N).l) :=
 ⟨first_set hS _, rfl, by simp [firstN]⟩
theorem made_like {x : PressB} {a b : DesN} (ha : LikeO x a) (hb : LikeO x b) (h : inB (turnL (wayB x) (origN x).hk b.rows) (turnL (wayB x) (origN x).hk a.rows) (origN x).rows.length) : lim F 24 [iv (wayOf (wayB x)), .agg [iv ((origN x).hk : Int), .list 1 (natsV a.rows)], .agg [iv ((origN x).hk : Int), .list 1 (natsV b.rows)]] = some (.tuple [.bool true, iv ((diffN a b : Nat) : Int), iv 0], []) := by
 have h1 := made_pair ha.ok hb.ok ha.hk hb.hk ha.rows hb.rows (wayB x)
 rw [lostV_in h, subB_in.2 h, ← diff_lost ha.ok hb.ok ha.hk hb.hk ha.rows hb.rows (wayB x) h] at h1
 exact h1
theorem differ_like {x : PressB} {a b : DesN} (ha : LikeO x a) (hb : LikeO x b) : lim F 52 [.agg [iv ((origN x).hk : Int), .list 1 (natsV a.rows)], .agg [iv ((origN x).hk : Int), .list 1 (natsV b.rows)]] = some (iv ((diffN a b : Nat) : Int), []) := by
 have h := differ_ok ha.ok hb.ok (by rw [ha.rows, hb.rows])
 rw [like_agg ha, like_agg hb] at h
 exact h
theorem sized_like {x : PressB} {a b : DesN} (ha : LikeO x a) (hb : LikeO x b) : lim F 51 [.agg [iv ((origN x).hk : Int), .list 1 (natsV a.rows)], .agg [iv ((origN x).hk : Int), .list 1 (natsV b.rows)]] = some (.bool true, []) := by
 have h := sized_set ha.ok (by rw [ha.hk, hb.hk]) (show a.rows.length = b.rows.length by rw [ha.rows, hb.rows])
 rw [like_agg ha, like_agg hb] at h
 exact h
theorem within_like {x : PressB} {a b : DesN} (ha : LikeO x a) (hb : LikeO x b) (h : ∀ q j, (a.rows.getD q 0).testBit j = true → (b.rows.getD q 0).testBit j = true) : lim F 53 [.agg [iv ((origN x).hk : Int), .list 1 (natsV a.rows)], .agg [iv ((origN x).hk : Int), .list 1 (natsV b.rows)]] = some (.bool true, []) := by
 have h := within_set ha.ok hb.ok (by rw [ha.rows, hb.rows]) h
 rw [like_agg ha, like_agg hb] at h
 exact h
theorem tv_cells (x : PressB) (N : Nat) : ∀ i (h : i < (madeTo x N).l.length), ((madeTo x N).l.map tvN)[i]? = some (.agg [iv ((origN x).hk : Int), .own 1 (natsV (madeTo x N).l[i].rows)]) ∧ (((madeTo x N).l.map tvN).flatMap AV.cells)[i * 2 + 1]? = some (.own 1 (natsV (madeTo x N).l[i].rows)) ∧ (natsV (madeTo x N).l[i].rows).length = (origN x).rows.length := fun i h => by
 have hd := madeTo_like x N _ (List.getElem_mem h)
 have h1 : ((madeTo x N).l.map tvN)[i]? = some (.agg [iv ((origN x).hk : Int), .own 1 (natsV (madeTo x N).l[i].rows)]) := by
  rw [List.getElem?_map, List.getElem?_eq_getElem h]
  show some (tvN _) = _
  unfold tvN
  rw [hd.hk]
 refine ⟨h1, cell_two (fun e he => ?_) h1, by simp [hd.rows]⟩
 obtain ⟨d, _, rfl⟩ := List.mem_map.1 he
 rfl
theorem truth_main (kn : lim F 14 [] = some (.bool true, [])) (x : PressB) (more : ByteB) : lim F 8 [x.av, .int .u8 (more.1 : Int)] = some (.bool true, []) := by
 obtain ⟨N, hN⟩ : ∃ N, N = manyC x := ⟨_, rfl⟩
 have hN1 : 1 ≤ N ∧ N ≤ 8 := by rw [hN]; unfold manyC; omega
 have hW := way_ok x
 have hM := made_ok x
 have hP := original_ok x
 rw [← hN] at hM
 have hS := madeTo_sets x hN1.1 (show N ≤ 10 by omega)
 have hO := ownS_ok hS
 have hF := First_ok hS (wayB x)
 have hlen := (madeTo_len x N).1
 have lo := like_self x
 have lf := first_like x hS
 have hsz := sized_like lf lo
 have hJO := joinO_in x (N := N)
 have ejf : turnL (wayB x) (origN x).hk (firstN (wayB x) (origN x).hk (origN x).rows.length (madeTo x N).l).rows = joinO x N := turnL_back _ _ _
 have hof := made_like lo lf (by rw [ejf]; exact hJO)
 have hat : ∀ i (h : i < (madeTo x N).l.length), ((madeTo x N).l.map setV)[i]? = some (.agg [iv ((origN x).hk : Int), .list 1 (natsV (madeTo x N).l[i].rows)]) := fun i h => by
  rw [setV_at h, like_agg (madeTo_like x N _ (List.getElem_mem h))]
 have hround : ∀ i (h : i < (madeTo x N).l.length), lim F 24 [iv (wayOf (wayB x)), .agg [iv ((origN x).hk : Int), .list 1 (natsV (origN x).rows)], .agg [iv ((origN x).hk : Int), .list 1 (natsV (madeTo x N).l[i].rows)]] = some (.tuple [.bool true, iv ((diffN (origN x) (madeTo x N).l[i] : Nat) : Int), iv 0], []) ∧
   lim F 24 [iv (wayOf (wayB x)), .agg [iv ((origN x).hk : Int), .list 1 (natsV (firstN (wayB x) (origN x).hk (origN x).rows.length (madeTo x N).l).rows)], .agg [iv ((origN x).hk : Int), .list 1 (natsV (madeTo x N).l[i].rows)]] = some (.tuple [.bool true, iv ((lostV (joinO x N) ((setsO x N).getD i []) (origN x).rows.length : Nat) : Int), iv 0], []) ∧
   lim F 52 [.agg [iv ((origN x).hk : Int), .list 1 (natsV (origN x).rows)], .agg [iv ((origN x).hk : Int), .list 1 (natsV (madeTo x N).l[i].rows)]] = some (iv ((diffN (origN x) (madeTo x N).l[i] : Nat) : Int), []) ∧
   lim F 52 [.agg [iv ((origN x).hk : Int), .list 1 (natsV (firstN (wayB x) (origN x).hk (origN x).rows.length (madeTo x N).l).rows)], .agg [iv ((origN x).hk : Int), .list 1 (natsV (madeTo x N).l[i].rows)]] = some (iv ((lostV (joinO x N) ((setsO x N).getD i []) (origN x).rows.length : Nat) : Int), []) := fun i h => by
  have ld := madeTo_like x N _ (List.getElem_mem h)
  obtain ⟨h1, h2, h3, h4⟩ := diff_most x (by omega) _ (List.getElem?_eq_getElem h)
  have hin : inB (turnL (wayB x) (origN x).hk (madeTo x N).l[i].rows) (turnL (wayB x) (origN x).hk (firstN (wayB x) (origN x).hk (origN x).rows.length (madeTo x N).l).rows) (origN x).rows.length := by rw [ejf]; exact h1
  have e1 : diffN (firstN (wayB x) (origN x).hk (origN x).rows.length (madeTo x N).l) (madeTo x N).l[i] = lostV (joinO x N) ((setsO x N).getD i []) (origN x).rows.length := by
   rw [diff_lost lf.ok ld.ok lf.hk ld.hk lf.rows ld.rows (wayB x) hin, ejf, h4, lostV_in h1]
  rw [← e1]
  exact ⟨made_like lo ld (inB_trans h1 hJO), made_like lf ld hin, differ_like lo ld, differ_like lf ld⟩
 have hml := most_split x (N := N) N hN1.1 (Nat.le_refl _)
 have hmm := madeTo_most x N
 have hworst : ∀ k, worstS (setsO x N) (joinO x N) (origN x).rows.length (k + 1) = max (worstS (setsO x N) (joinO x N) (origN x).rows.length k) (lostV (joinO x N) ((setsO x N).getD k []) (origN x).rows.length) := fun _ => rfl
 have hWle := worstS_le (setsO x N) (joinO x N) (origN x).rows.length
 have hn6 := orig_rows x
 have hmv := fun al => moreS (setsO x N) (joinO x N) (origN x).rows.length al N
 have hj1 : (joinO x N).length = (origN x).rows.length := joinN_len _ _
 have hj2 : ∀ r ∈ joinO x N, r < 2 ^ (origN x).hk := fun r hr => by
  obtain ⟨q, hq, rfl⟩ := List.mem_map.1 hr
  exact joinAt_lt (n := (origN x).rows.length) (setsN_row hS) (List.mem_range.1 hq)
 -- the room that is left
 obtain ⟨m, hm⟩ : ∃ m, m = lostN (rowsO x) (joinO x N) (origN x).rows.length + more.1 % 4 := ⟨_, rfl⟩
 have hm0 : m = 0 → inB (rowsO x) (joinO x N) (origN x).rows.length := fun e => lost_zero (fun q hq => by
  have h1 : q < (rowsO x).length := by unfold rowsO; rw [turnL_len]; exact hq
  unfold atR
  rw [rows_get h1]
  exact up24 (turnL_lt (orig_ok x).lt _ (List.getElem_mem h1)) (orig_ok x).h24) (by omega)
 have lsu : LikeO x ⟨(origN x).hk, sureN (wayB x) (origN x).hk (origN x).rows.length m (joinO x N)⟩ := ⟨⟨lo.ok.h1, lo.ok.h24, by show 1 ≤ (turnL _ _ _).length; rw [turnL_len, (pickJ_len hj1).1]; exact hn6.1, by show (turnL _ _ _).length ≤ 60; rw [turnL_len, (pickJ_len hj1).1]; omega, turnL_lt (pickJ_lt hj2).1⟩, rfl, by show (turnL _ _ _).length = _; rw [turnL_len, (pickJ_len hj1).1]⟩
 have lca : LikeO x ⟨(origN x).hk, canN (wayB x) (origN x).hk (origN x).rows.length m (joinO x N)⟩ := ⟨⟨lo.ok.h1, lo.ok.h24, by show 1 ≤ (turnL _ _ _).length; rw [turnL_len, (pickJ_len hj1).2]; exact hn6.1, by show (turnL _ _ _).length ≤ 60; rw [turnL_len, (pickJ_len hj1).2]; omega, turnL_lt (pickJ_lt hj2).2⟩, rfl, by show (turnL _ _ _).length = _; rw [turnL_len, (pickJ_len hj1).2]⟩
 have hws := within_like lsu lo (sure_in rfl hj1 hj2 hJO hm0)
 have hwc := within_like lo lca (can_in rfl (orig_ok x).lt hj1 hJO hm0)
 have hzs := sized_like lsu lo
 have hzc := sized_like lca lo
 have hOr : ∀ al : Int, 0 ≤ al → al ≤ 1000 → al - (worstS (setsO x N) (joinO x N) (origN x).rows.length N : Nat) = (m : Int) → lim F 31 [iv (wayOf (wayB x)), .list 2 ((madeTo x N).l.map setV), iv al] = some (.tuple [.agg [iv ((origN x).hk : Int), .own 1 (natsV (sureN (wayB x) (origN x).hk (origN x).rows.length m (joinO x N)))], .agg [iv ((origN x).hk : Int), .own 1 (natsV (canN (wayB x) (origN x).hk (origN x).rows.length m (joinO x N)))], iv 0], []) := fun al h0 h1 e => Original_ok hS (wayB x) al m h0 h1 (by rw [hlen]; exact (hmv al).trans e)
 have hCo : ∀ al : Int, 0 ≤ al → al ≤ 1000 → ∀ k : Nat, k ≤ 1000 → al - (worstS (setsO x N) (joinO x N) (origN x).rows.length N : Nat) = (k : Int) → ∃ cn ce : Int, lim F 32 [iv (wayOf (wayB x)), .list 2 ((madeTo x N).l.map setV), iv al] = some (.tuple [iv cn, iv ce], []) ∧ ((ce = 0 ∧ ¬ cn < 1) ∨ ce = 8) ∧ (k = 0 → cn = 1 ∧ ce = 0) := fun al h0 h1 k hk e => by
  have h := Count_ok hS (wayB x) al k h0 h1 (by rw [hlen]; exact (hmv al).trans e) hk
  have hp := sumW_pos (gapsL (origN x).hk (origN x).rows.length (joinN (setsN (wayB x) (origN x).hk (madeTo x N).l) (origN x).rows.length)) k
  have hp1 := sumW_one (gapsL (origN x).hk (origN x).rows.length (joinN (setsN (wayB x) (origN x).hk (madeTo x N).l) (origN x).rows.length))
  by_cases hc : sumW (gapsL (origN x).hk (origN x).rows.length (joinN (setsN (wayB x) (origN x).hk (madeTo x N).l) (origN x).rows.length)) (k + 1) = capK
  ·rw [if_pos hc] at h
   exact ⟨_, _, h, Or.inr rfl, fun e => by subst e; rw [hp1] at hc; simp [capK] at hc⟩
  ·rw [if_neg hc] at h
   exact ⟨_, _, h, Or.inl ⟨rfl, by omega⟩, fun e => by subst e; rw [hp1]; exact ⟨rfl, rfl⟩⟩
 have hNo : ∀ al : Int, 0 ≤ al → al ≤ 1000 → al - (worstS (setsO x N) (joinO x N) (origN x).rows.length N : Nat) < 0 → lim F 31 [iv (wayOf (wayB x)), .list 2 ((madeTo x N).l.map setV), iv al] = some (.tuple [.agg [iv 0, .own 1 []], .agg [iv 0, .own 1 []], iv 9], []) ∧ lim F 32 [iv (wayOf (wayB x)), .list 2 ((madeTo x N).l.map setV), iv al] = some (.tuple [iv 0, iv 9], []) := fun al h0 h1 e => ⟨(Original_no hS (wayB x) al).2 ⟨h0, h1⟩ (by rw [hlen]; rw [← hmv al] at e; exact e), (Count_no hS (wayB x) al).2 ⟨h0, h1⟩ (by rw [hlen]; rw [← hmv al] at e; exact e)⟩
 have hfe := tvN_fe (madeTo x N).l
 have hLl : ((madeTo x N).l.map setV).length = N := by simp [hlen]
 have htat := tv_cells x N
 have hTl : ((madeTo x N).l.map tvN).length = N := by simp [hlen]
 have hFl : (natsV (firstN (wayB x) (origN x).hk (origN x).rows.length (madeTo x N).l).rows).length = (origN x).rows.length := by simp [firstN]
 have hFp := nats_plain (firstN (wayB x) (origN x).hk (origN x).rows.length (madeTo x N).l).rows
 have hOl : (natsV (origN x).rows).length = (origN x).rows.length := by simp
 have hOp := nats_plain (origN x).rows
 have hSl : (natsV (sureN (wayB x) (origN x).hk (origN x).rows.length m (joinO x N))).length = (origN x).rows.length := by simp [sureN, (pickJ_len hj1).1]
 have hCl : (natsV (canN (wayB x) (origN x).hk (origN x).rows.length m (joinO x N))).length = (origN x).rows.length := by simp [canN, (pickJ_len hj1).2]
 have hSp := nats_plain (sureN (wayB x) (origN x).hk (origN x).rows.length m (joinO x N))
 have hCp := nats_plain (canN (wayB x) (origN x).hk (origN x).rows.length m (joinO x N))
 have hdiff : ∀ i (h : i < (madeTo x N).l.length), diffN (origN x) (madeTo x N).l[i] ≤ 144 := fun i h => diffN_le
 have hmore : more.1 < 256 := more.2
 generalize natsV (sureN (wayB x) (origN x).hk (origN x).rows.length m (joinO x N)) = SR at *
 generalize natsV (canN (wayB x) (origN x).hk (origN x).rows.length m (joinO x N)) = CR at *
 generalize natsV (firstN (wayB x) (origN x).hk (origN x).rows.length (madeTo x N).l).rows = FR at *
 generalize natsV (origN x).rows = OR at *
 generalize lostN (rowsO x) (joinO x N) (origN x).rows.length = X at *
 have hLle := fun i => lostV_le (joinO x N) ((setsO x N).getD i []) (origN x).rows.length
 generalize hWW : worstS (setsO x N) (joinO x N) (origN x).rows.length = WW at *
 have hWW0 : WW 0 = 0 := by rw [← hWW]; rfl
 generalize hAA : (madeTo x N).l.map setV = AA at *
 generalize (madeTo x N).l.map tvN = TT at *
 have tFR : FR.take (origN x).rows.length = FR := List.take_of_length_le (by omega)
 have tOR : OR.take (origN x).rows.length = OR := List.take_of_length_le (by omega)
 have tSR : SR.take (origN x).rows.length = SR := List.take_of_length_le (by omega)
 have tCR : CR.take (origN x).rows.length = CR := List.take_of_length_le (by omega)
 have tAA : AA.take N = AA := List.take_of_length_le (by omega)
 have hWN := hWle N
 have hA1 := hOr ((((madeTo x N).most : Nat) : Int) + ((more.1 % 4 : Nat) : Int)) (by omega) (by omega) (by omega)
 obtain ⟨cn, ce, hC1, hce, _⟩ := hCo ((((madeTo x N).most : Nat) : Int) + ((more.1 % 4 : Nat) : Int)) (by omega) (by omega) m (by omega) (by omega)
 obtain ⟨cn2, ce2, hC2, _, hc2⟩ := hCo ((WW N : Nat) : Int) (by omega) (by omega) 0 (by omega) (by omega)
 obtain ⟨rfl, rfl⟩ := hc2 rfl
 have hmo : Int.tmod (more.1 : Int) 4 = ((more.1 % 4 : Nat) : Int) := rfl
 unfold PressB.av at *
 refine lim_by (fn := a8) (k := 2) (res := [.tmp 4]) rfl rfl rfl (by simp -implicitDefEqProofs (maxSteps := 2000000) (disch := first | exact tt_rfl rfl | omega | (simp only [go_sem] <;> omega) | fail) only [go_sem]) ?_
 try delta mvA
 try delta opA
 try delta tA
 simp -implicitDefEqProofs (maxSteps := 2000000) (disch := first | exact tt_rfl rfl | omega | (simp only [go_sem] <;> omega) | fail) only [go_sem]
 repeat (first | apply Wp.seqA | apply Wp.skipS | apply Wp.blockS | ((first | apply Wp.regS | apply Wp.condV | apply Wp.reg | apply Wp.condW | apply fin_ret); simp -implicitDefEqProofs (maxSteps := 2000000) (disch := first | exact tt_rfl rfl | omega | (simp only [go_sem] <;> omega) | fail) only [go_sem, tAA, tFR, tOR, hP, hW, hM, hO, hF, hLl, hTl, hfe, hFl, hFp, hOl, hOp, hsz, bne_self_eq_false, ite_self] <;> try with_reducible rfl) | apply Wp.block | apply Wp.exitS | apply Wp.retS | apply Wp.exit | apply Wp.ret | apply Wp.skip)
 apply Wp.loopF N (fun i => ⟨[(1, .int .u8 (more.1 : Int)), (5, .ptr 320 0 0), (6, iv (wayOf (wayB x))), (7, .slice 448 0 N), (10, iv (((madeTo x N).most : Nat) : Int)), (11, .ptr 704 0 0), (13, iv ((WW i : Nat) : Int)), (14, iv (i : Int))], [(320, .box [iv ((origN x).hk : Int), .list 1 OR]), (448, .arr 2 AA), (704, .box [iv ((origN x).hk : Int), .slice 311265 0 (origN x).rows.length]), (311265, .arr 1 FR)], [], 10000000⟩) (fun _ => True)
 ·simp -implicitDefEqProofs (maxSteps := 2000000) (disch := first | exact tt_rfl rfl | omega | (simp only [go_sem] <;> omega) | fail) only [go_sem, norm_eq, Ok.some]
  rw [hWW0]
  rfl
 ·trivial
 intro i hi _
 by_cases h' : i < N
 ·have hi' : i < (madeTo x N).l.length := by omega
  have a1 := hat i hi'
  obtain ⟨r1, r2, r3, r4⟩ := hround i hi'
  have l1 := hLle i
  obtain ⟨t1, t2, t3⟩ := htat i hi'
  have tCI : (natsV (madeTo x N).l[i].rows).take (origN x).rows.length = natsV (madeTo x N).l[i].rows := List.take_of_length_le (by omega)
  have l2 := hdiff i hi'
  have l3 := hWle i
  have hw := hworst i
  generalize diffN (origN x) (madeTo x N).l[i] = DV at *
  generalize lostV (joinO x N) ((setsO x N).getD i []) (origN x).rows.length = LV at *
  generalize natsV (madeTo x N).l[i].rows = CI at *
  repeat (first | apply Wp.seqA | apply Wp.skipS | apply Wp.blockS | ((first | apply Wp.regS | apply Wp.condV | apply Wp.reg | apply Wp.condW | apply fin_ret); simp -implicitDefEqProofs (maxSteps := 2000000) (disch := first | exact tt_rfl rfl | omega | (simp only [go_sem] <;> omega) | fail) only [go_sem, h', Int.ofNat_lt, hLl, hTl, hfe, hO, tAA, a1, t1, t2, t3, tCI, r1, r2, r3, r4, tFR, hFl, hFp, tOR, hOl, hOp, bne_self_eq_false, ite_self, decide_true, decide_false] <;> try with_reducible rfl) | apply Wp.block | apply Wp.exitS | apply Wp.retS | apply Wp.exit | apply Wp.ret | apply Wp.skip)
  apply round_next
  ·simp -implicitDefEqProofs (maxSteps := 2000000) (disch := first | exact tt_rfl rfl | omega | (simp only [go_sem] <;> omega) | fail) only [go_sem, norm_eq, Ok.some]; with_reducible rfl
  exact ⟨h', by simp; omega, trivial⟩
 ·obtain rfl : i = N := by omega
  have hgt : ∀ k : Nat, ((k : Int) > 0) = (0 < k) := fun k => by simp
  by_cases hw0 : WW i = 0
  ·have hneg : ¬ (0 : Int) < ((WW i : Nat) : Int) := by omega
   rcases hce with ⟨rfl, c1⟩ | rfl
   ·repeat (first | apply Wp.seqA | apply Wp.skipS | apply Wp.blockS | ((first | apply Wp.regS | apply Wp.condV | apply Wp.reg | apply Wp.condW | apply fin_ret); simp -implicitDefEqProofs (maxSteps := 2000000) (disch := first | exact tt_rfl rfl | omega | (simp only [go_sem] <;> omega) | fail) only [go_sem, Int.lt_irrefl, hLl, kn, hof, tFR, hFl, hFp, tOR, hOl, hOp, hO, hTl, hfe, tAA, hmo, hA1, hC1, hC2, hzs, hzc, hws, hwc, tSR, hSl, hSp, tCR, hCl, hCp, c1, hneg, gt_iff_lt, bne_self_eq_false, decide_true, decide_false, ite_self] <;> try with_reducible rfl) | apply Wp.block | apply Wp.exitS | apply Wp.retS | apply Wp.exit | apply Wp.ret | apply Wp.skip)
   ·repeat (first | apply Wp.seqA | apply Wp.skipS | apply Wp.blockS | ((first | apply Wp.regS | apply Wp.condV | apply Wp.reg | apply Wp.condW | apply fin_ret); simp -implicitDefEqProofs (maxSteps := 2000000) (disch := first | exact tt_rfl rfl | omega | (simp only [go_sem] <;> omega) | fail) only [go_sem, Int.lt_irrefl, hLl, kn, hof, tFR, hFl, hFp, tOR, hOl, hOp, hO, hTl, hfe, tAA, hmo, hA1, hC1, hC2, hzs, hzc, hws, hwc, tSR, hSl, hSp, tCR, hCl, hCp, hneg, gt_iff_lt, bne_self_eq_false, decide_true, decide_false, ite_self] <;> try with_reducible rfl) | apply Wp.block | apply Wp.exitS | apply Wp.retS | apply Wp.exit | apply Wp.ret | apply Wp.skip)
  ·obtain ⟨n1, n2⟩ := hNo ((WW i : Nat) - 1 : Int) (by omega) (by omega) (by omega)
   have hpos : (0 : Int) < ((WW i : Nat) : Int) := by omega
   rcases hce with ⟨rfl, c1⟩ | rfl
   ·repeat (first | apply Wp.seqA | apply Wp.skipS | apply Wp.blockS | ((first | apply Wp.regS | apply Wp.condV | apply Wp.reg | apply Wp.condW | apply fin_ret); simp -implicitDefEqProofs (maxSteps := 2000000) (disch := first | exact tt_rfl rfl | omega | (simp only [go_sem] <;> omega) | fail) only [go_sem, Int.lt_irrefl, hLl, kn, hof, tFR, hFl, hFp, tOR, hOl, hOp, hO, hTl, hfe, tAA, hmo, hA1, hC1, hC2, hzs, hzc, hws, hwc, tSR, hSl, hSp, tCR, hCl, hCp, c1, hpos, gt_iff_lt, n1, n2, bne_self_eq_false, decide_true, decide_false, ite_self] <;> try with_reducible rfl) | apply Wp.block | apply Wp.exitS | apply Wp.retS | apply Wp.exit | apply Wp.ret | apply Wp.skip)
   ·repeat (first | apply Wp.seqA | apply Wp.skipS | apply Wp.blockS | ((first | apply Wp.regS | apply Wp.condV | apply Wp.reg | apply Wp.condW | apply fin_ret); simp -implicitDefEqProofs (maxSteps := 2000000) (disch := first | exact tt_rfl rfl | omega | (simp only [go_sem] <;> omega) | fail) only [go_sem, Int.lt_irrefl, hLl, kn, hof, tFR, hFl, hFp, tOR, hOl, hOp, hO, hTl, hfe, tAA, hmo, hA1, hC1, hC2, hzs, hzc, hws, hwc, tSR, hSl, hSp, tCR, hCl, hCp, hpos, gt_iff_lt, n1, n2, bne_self_eq_false, decide_true, decide_false, ite_self] <;> try with_reducible rfl) | apply Wp.block | apply Wp.exitS | apply Wp.retS | apply Wp.exit | apply Wp.ret | apply Wp.skip)
end Go.Abs

set_option linter.all false
namespace Go.Abs
theorem copyTruth_ok (x : PressB) (more : ByteB) : lim F 8 [x.av, .int .u8 (more.1 : Int)] = some (.bool true, []) := truth_main known_ok x more
end Go.Abs
