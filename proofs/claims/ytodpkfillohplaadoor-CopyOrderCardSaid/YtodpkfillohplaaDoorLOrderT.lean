/-
 Several texts: LOrder, LOrderT.
-/
import Derived.Test.YtodpkfillohplaaDoorX28
import Derived.Test.YtodpkfillohplaaDoorW5
import Derived.Test.YtodpkfillohplaaDoorKnown
set_option linter.all false
namespace Go.Abs
set_option maxRecDepth 10000
set_option maxHeartbeats 8000000

theorem ownS_ok {l : List DesN} {hk n : Nat} (h : SetsOk l hk n) : lim F 15 [.list 2 (l.map setV)] = some (.ownT 2 (l.map tvN), []) := by
 have h10 := h.l10
 exact ownN_ok l (by omega) (fun d hd => by have := (h.ok d hd).r60; omega)
theorem tvN_fe (l : List DesN) : (l.map tvN).map AV.tabFe = l.map setV := by
 rw [List.map_map]; rfl
theorem order_main (kn : lim F 14 [] = some (.bool true, [])) (x : PressB) : lim F 9 [x.av] = some (.bool true, []) := by
 obtain ⟨N, hN⟩ : ∃ N, N = manyC x := ⟨_, rfl⟩
 have hN1 : 1 ≤ N ∧ N ≤ 8 := by rw [hN]; unfold manyC; omega
 have hW := way_ok x
 have hM := made_ok x
 rw [← hN] at hM
 have hS := madeTo_sets x hN1.1 (show N ≤ 10 by omega)
 have hO := ownS_ok hS
 have hF := First_ok hS (wayB x)
 have hT := Tree_ok hS (wayB x)
 have hlen := (madeTo_len x N).1
 rw [hlen] at hT
 have hsum := tree_le x N N (Nat.le_refl _)
 have hchg := madeTo_chg x N
 have hfo := first_set hS (wayB x)
 have hmf := fun b (hb : b ∈ (madeTo x N).l) => made_first hS (wayB x) hb
 have hmp := fun a b (ha : a ∈ (madeTo x N).l) (hb : b ∈ (madeTo x N).l) => made_pair (hS.ok a ha) (hS.ok b hb) (hS.hk a ha) (hS.hk b hb) (hS.rows a ha) (hS.rows b hb) (wayB x)
 have hspec := fun i => treeV_spec (setsN (wayB x) (origN x).hk (madeTo x N).l) (joinN (setsN (wayB x) (origN x).hk (madeTo x N).l) (origN x).rows.length) (origN x).rows.length i i
 have hsa := fun i (h : i < (madeTo x N).l.length) => sets_at (t := wayB x) (hk := (origN x).hk) (List.getElem?_eq_getElem h)
 obtain ⟨B0, h0, hsz⟩ : ∃ B0 : List AV, ((madeTo x N).l.map setV)[0]? = some (.agg [iv ((origN x).hk : Int), .list 1 B0]) ∧ lim F 51 [.agg [iv ((origN x).hk : Int), .list 1 (natsV (firstN (wayB x) (origN x).hk (origN x).rows.length (madeTo x N).l).rows)], .agg [iv ((origN x).hk : Int), .list 1 B0]] = some (.bool true, []) := by
  have h0 : 0 < (madeTo x N).l.length := by omega
  have hm := List.getElem_mem h0
  have hz := sized_set (b := (madeTo x N).l[0]) hfo (by rw [hS.hk _ hm]; rfl) (by rw [hS.rows _ hm]; simp [firstN])
  refine ⟨natsV (madeTo x N).l[0].rows, ?_, ?_⟩
  ·rw [setV_at h0]; unfold setV; rw [hS.hk _ hm]
  ·unfold setV at hz; rw [hS.hk _ hm] at hz; exact hz
 have hTlen : (intsV (treeL (setsN (wayB x) (origN x).hk (madeTo x N).l) (joinN (setsN (wayB x) (origN x).hk (madeTo x N).l) (origN x).rows.length) (origN x).rows.length N)).length = N := by simp [intsV, treeL]
 have hTat : ∀ i, i < N → (intsV (treeL (setsN (wayB x) (origN x).hk (madeTo x N).l) (joinN (setsN (wayB x) (origN x).hk (madeTo x N).l) (origN x).rows.length) (origN x).rows.length N))[i]? = some (iv (treeV (setsN (wayB x) (origN x).hk (madeTo x N).l) (joinN (setsN (wayB x) (origN x).hk (madeTo x N).l) (origN x).rows.length) (origN x).rows.length i i).1) := fun i hi => by
  unfold intsV treeL
  rw [List.getElem?_map, List.getElem?_map, List.getElem?_range hi]; rfl
 have hpT : (intsV (treeL (setsN (wayB x) (origN x).hk (madeTo x N).l) (joinN (setsN (wayB x) (origN x).hk (madeTo x N).l) (origN x).rows.length) (origN x).rows.length N)).all AV.plain = true := by simp [intsV, AV.plain, AV.plain1]
 have hfe := tvN_fe (madeTo x N).l
 have hLl : ((madeTo x N).l.map setV).length = N := by simp [hlen]
 have hTl : ((madeTo x N).l.map tvN).length = N := by simp [hlen]
 have hat : ∀ i (h : i < (madeTo x N).l.length), ((madeTo x N).l.map setV)[i]? = some (.agg [iv ((origN x).hk : Int), .list 1 (natsV (madeTo x N).l[i].rows)]) := fun i h => by
  rw [setV_at h]; unfold setV; rw [hS.hk _ (List.getElem_mem h)]
 have hss := fun i => (rfl : treeS (setsN (wayB x) (origN x).hk (madeTo x N).l) (joinN (setsN (wayB x) (origN x).hk (madeTo x N).l) (origN x).rows.length) (origN x).rows.length (i + 1) = treeS (setsN (wayB x) (origN x).hk (madeTo x N).l) (joinN (setsN (wayB x) (origN x).hk (madeTo x N).l) (origN x).rows.length) (origN x).rows.length i + (treeV (setsN (wayB x) (origN x).hk (madeTo x N).l) (joinN (setsN (wayB x) (origN x).hk (madeTo x N).l) (origN x).rows.length) (origN x).rows.length i i).2)
 have hFl : (natsV (firstN (wayB x) (origN x).hk (origN x).rows.length (madeTo x N).l).rows).length = (origN x).rows.length := by simp [firstN]
 have hFp := nats_plain (firstN (wayB x) (origN x).hk (origN x).rows.length (madeTo x N).l).rows
 generalize natsV (firstN (wayB x) (origN x).hk (origN x).rows.length (madeTo x N).l).rows = FR at *
 generalize joinN (setsN (wayB x) (origN x).hk (madeTo x N).l) (origN x).rows.length = J at *
 generalize setsN (wayB x) (origN x).hk (madeTo x N).l = SS at *
 generalize intsV (treeL SS J (origN x).rows.length N) = TR at *
 generalize hAA : (madeTo x N).l.map setV = AA at *
 have tFR : FR.take (origN x).rows.length = FR := List.take_of_length_le (by omega)
 have tTR : TR.take N = TR := List.take_of_length_le (by omega)
 have tAA : AA.take N = AA := List.take_of_length_le (by omega)
 have e0 : ¬ ((madeTo x N).chg : Int) < (treeS SS J (origN x).rows.length N : Int) := by omega
 unfold PressB.av at *
 refine lim_by (fn := a9) (k := 1) (res := [.tmp 2]) rfl rfl rfl (by simp -implicitDefEqProofs (maxSteps := 2000000) (disch := first | exact tt_rfl rfl | omega | (simp only [go_sem] <;> omega) | fail) only [go_sem]) ?_
 try delta mvA
 try delta opA
 try delta tA
 simp -implicitDefEqProofs (maxSteps := 2000000) (disch := first | exact tt_rfl rfl | omega | (simp only [go_sem] <;> omega) | fail) only [go_sem]
 repeat (first | apply Wp.seqA | apply Wp.skipS | apply Wp.blockS | ((first | apply Wp.regS | apply Wp.condV | apply Wp.reg | apply Wp.condW | apply fin_ret); simp -implicitDefEqProofs (maxSteps := 2000000) (disch := first | exact tt_rfl rfl | omega | (simp only [go_sem] <;> omega) | fail) only [go_sem, tAA, tFR, tTR, e0, gt_iff_lt, hW, hM, hO, hF, hT, hLl, hTl, hfe, hTlen, hpT, hFl, hFp, hsz, h0, bne_self_eq_false, ite_self] <;> try with_reducible rfl) | apply Wp.block | apply Wp.exitS | apply Wp.retS | apply Wp.exit | apply Wp.ret | apply Wp.skip)
 apply Wp.loopF N (fun i => ⟨[(3, iv (wayOf (wayB x))), (4, .slice 256 0 N), (8, .ptr 512 0 0), (10, .slice 640 0 N), (11, iv ((treeS SS J (origN x).rows.length N : Nat) : Int)), (13, iv ((treeS SS J (origN x).rows.length i : Nat) : Int)), (14, iv (i : Int))], [(256, .arr 2 AA), (512, .box [iv ((origN x).hk : Int), .slice 308193 0 (origN x).rows.length]), (640, .arr 1 TR), (308193, .arr 1 FR)], [], 10000000⟩) (fun _ => True)
 ·simp -implicitDefEqProofs (maxSteps := 2000000) (disch := first | exact tt_rfl rfl | omega | (simp only [go_sem] <;> omega) | fail) only [go_sem, norm_eq, Ok.some]
  rfl
 ·trivial
 intro i hi _
 have hn6 := orig_rows x
 have hTS := treeS_le SS J (origN x).rows.length
 by_cases h' : i < N
 ·have hi' : i < (madeTo x N).l.length := by omega
  have hm := List.getElem_mem hi'
  have mf := hmf _ hm
  rw [← hsa i hi'] at mf
  have mp : ∀ q (hq : q < i), lim F 24 [iv (wayOf (wayB x)), .agg [iv ((origN x).hk : Int), .list 1 (natsV ((madeTo x N).l[q]'(by omega)).rows)], .agg [iv ((origN x).hk : Int), .list 1 (natsV (madeTo x N).l[i].rows)]] = some (.tuple [.bool (subB (SS.getD q []) (SS.getD i []) (origN x).rows.length), iv ((lostV (SS.getD q []) (SS.getD i []) (origN x).rows.length : Nat) : Int), iv 0], []) := fun q hq => by
   have := hmp _ _ (List.getElem_mem (show q < (madeTo x N).l.length by omega)) hm
   rw [← hsa q (by omega), ← hsa i hi'] at this
   exact this
  have a1 := hat i hi'
  have aq := fun q (hq : q < i) => hat q (by omega)
  have a2 := hTat i h'
  have l2 := lostV_le J (SS.getD i []) (origN x).rows.length
  have b1 := hTS i
  have b2 : 24 * (origN x).rows.length * i ≤ 24 * 6 * 8 := Nat.mul_le_mul (by omega) (by omega)
  have hlq := fun q => lostV_le (SS.getD q []) (SS.getD i []) (origN x).rows.length
  obtain ⟨f1, f2, f3⟩ := hspec i
  generalize hV : treeV SS J (origN x).rows.length i i = V at *
  obtain ⟨V1, V2⟩ := V
  have hssi : treeS SS J (origN x).rows.length (i + 1) = treeS SS J (origN x).rows.length i + V2 := by
   show _ + (treeV SS J (origN x).rows.length i i).2 = _
   rw [hV]
  simp only at a2 f1 f2 f3 ⊢
  generalize natsV (madeTo x N).l[i].rows = CI at *
  generalize treeS SS J (origN x).rows.length i = sm at *
  have hV1 : -1 ≤ V1 ∧ V1 < (i : Int) := by rcases f1 with ⟨e, _⟩ | ⟨q, e1, e2, _⟩ <;> omega
  have hz : V2 ≤ lostV J (SS.getD i []) (origN x).rows.length ∧ (lostV J (SS.getD i []) (origN x).rows.length = V2 → V1 ≤ -1) := ⟨f2, fun e => by rcases f1 with ⟨a, _⟩ | ⟨q, _, _, _, _, b⟩ <;> omega⟩
  rcases f1 with ⟨e1, e2⟩ | ⟨q, e1, e2, e3, e4, e5⟩
  case' inl =>
   have mf' := mf
   rw [← e2] at mf'
   repeat (first | apply Wp.seqA | apply Wp.skipS | apply Wp.blockS | ((first | apply Wp.regS | apply Wp.condV | apply Wp.reg | apply Wp.condW | apply fin_ret); simp -implicitDefEqProofs (maxSteps := 2000000) (disch := first | exact tt_rfl rfl | omega | (simp only [go_sem] <;> omega) | fail) only [go_sem, h', Int.ofNat_lt, hLl, hTlen, a1, a2, mf', tFR, hFl, hFp, show ¬ V1 < -1 by omega, show ¬ (i : Int) ≤ V1 by omega, show ¬ (0 : Int) ≤ V1 by omega, decide_false, decide_true, bne_self_eq_false] <;> try with_reducible rfl) | apply Wp.block | apply Wp.exitS | apply Wp.retS | apply Wp.exit | apply Wp.ret | apply Wp.skip)
  case' inr =>
   have mq := mp q e1
   rw [e3, ← e4] at mq
   have aqq := aq q e1
   have eq1 : V1.toNat = q := by omega
   repeat (first | apply Wp.seqA | apply Wp.skipS | apply Wp.blockS | ((first | apply Wp.regS | apply Wp.condV | apply Wp.reg | apply Wp.condW | apply fin_ret); simp -implicitDefEqProofs (maxSteps := 2000000) (disch := first | exact tt_rfl rfl | omega | (simp only [go_sem] <;> omega) | fail) only [go_sem, h', Int.ofNat_lt, hLl, hTlen, a1, a2, mq, aqq, eq1, tFR, hFl, hFp, Nat.zero_add, show ¬ V1 < -1 by omega, show ¬ (i : Int) ≤ V1 by omega, show (0 : Int) ≤ V1 by omega, decide_false, decide_true, bne_self_eq_false] <;> try with_reducible rfl) | apply Wp.block | apply Wp.exitS | apply Wp.retS | apply Wp.exit | apply Wp.ret | apply Wp.skip)
  all_goals
   apply Wp.loopF (i + 1) (fun p => ⟨[(3, iv (wayOf (wayB x))), (4, .slice 256 0 N), (8, .ptr 512 0 0), (10, .slice 640 0 N), (11, iv ((treeS SS J (origN x).rows.length N : Nat) : Int)), (13, iv ((sm + V2 : Nat) : Int)), (14, iv (i : Int)), (17, iv (V2 : Int)), (19, iv ((p : Int) - 1))], [(256, .arr 2 AA), (512, .box [iv ((origN x).hk : Int), .slice 308193 0 (origN x).rows.length]), (640, .arr 1 TR), (308193, .arr 1 FR)], [], 10000000⟩) (fun _ => True)
   ·simp -implicitDefEqProofs (maxSteps := 2000000) (disch := first | exact tt_rfl rfl | omega | (simp only [go_sem] <;> omega) | fail) only [go_sem, norm_eq, Ok.some]
    rfl
   ·trivial
   intro p hp _
   by_cases hp' : p < i + 1
   ·have hpi : (p : Int) - 1 < i := by omega
    by_cases hp0 : p = 0
    ·subst hp0
     generalize hL0 : lostV J (SS.getD i []) (origN x).rows.length = L0 at *
     obtain ⟨z1, z2⟩ := hz
     by_cases hz2 : L0 = V2
     ·have z3 := z2 hz2
      subst hz2
      repeat (first | apply Wp.seqA | apply Wp.skipS | apply Wp.blockS | ((first | apply Wp.regS | apply Wp.condV | apply Wp.reg | apply Wp.condW | apply fin_ret); simp -implicitDefEqProofs (maxSteps := 2000000) (disch := first | exact tt_rfl rfl | omega | (simp only [go_sem] <;> omega) | fail) only [go_sem, hpi, hLl, hTlen, a1, a2, mf, tFR, hFl, hFp, show ¬ (0 : Int) ≤ ((0 : Nat) : Int) - 1 by omega, show ¬ ((0 : Nat) : Int) - 1 < V1 by omega, h', Int.ofNat_lt, Nat.lt_irrefl, Int.lt_irrefl, decide_true, decide_false, bne_self_eq_false] <;> try with_reducible rfl) | apply Wp.block | apply Wp.exitS | apply Wp.retS | apply Wp.exit | apply Wp.ret | apply Wp.skip)
      apply round_next
      ·simp -implicitDefEqProofs (maxSteps := 2000000) (disch := first | exact tt_rfl rfl | omega | (simp only [go_sem] <;> omega) | fail) only [go_sem, norm_eq, Ok.some]; with_reducible rfl
      exact ⟨hp', by simp, trivial⟩
     ·repeat (first | apply Wp.seqA | apply Wp.skipS | apply Wp.blockS | ((first | apply Wp.regS | apply Wp.condV | apply Wp.reg | apply Wp.condW | apply fin_ret); simp -implicitDefEqProofs (maxSteps := 2000000) (disch := first | exact tt_rfl rfl | omega | (simp only [go_sem] <;> omega) | fail) only [go_sem, hpi, hLl, hTlen, a1, a2, mf, tFR, hFl, hFp, show ¬ (0 : Int) ≤ ((0 : Nat) : Int) - 1 by omega, show ¬ (L0 : Int) < (V2 : Int) by omega, show ¬ (L0 : Int) = (V2 : Int) by omega, h', Int.ofNat_lt, decide_true, decide_false, bne_self_eq_false] <;> try with_reducible rfl) | apply Wp.block | apply Wp.exitS | apply Wp.retS | apply Wp.exit | apply Wp.ret | apply Wp.skip)
      apply round_next
      ·simp -implicitDefEqProofs (maxSteps := 2000000) (disch := first | exact tt_rfl rfl | omega | (simp only [go_sem] <;> omega) | fail) only [go_sem, norm_eq, Ok.some]; with_reducible rfl
      exact ⟨hp', by simp, trivial⟩
    ·obtain ⟨k, rfl⟩ : ∃ k, p = k + 1 := ⟨p - 1, by omega⟩
     have hk : k < i := by omega
     have mk := mp k hk
     have ak := aq k hk
     have fk := f3 k hk
     have lk := hlq k
     have ek : (((k + 1 : Nat) : Int) - 1) = (k : Int) := by omega
     have ek2 : (((k + 1 + 1 : Nat) : Int) - 1) = (k : Int) + 1 := by omega
     rw [ek, ek2]
     generalize lostV (SS.getD k []) (SS.getD i []) (origN x).rows.length = LK at *
     generalize subB (SS.getD k []) (SS.getD i []) (origN x).rows.length = BK at *
     generalize natsV ((madeTo x N).l[k]'(by omega)).rows = CK at *
     cases BK with
     | false =>
      repeat (first | apply Wp.seqA | apply Wp.skipS | apply Wp.blockS | ((first | apply Wp.regS | apply Wp.condV | apply Wp.reg | apply Wp.condW | apply fin_ret); simp -implicitDefEqProofs (maxSteps := 2000000) (disch := first | exact tt_rfl rfl | omega | (simp only [go_sem] <;> omega) | fail) only [go_sem, show (k : Int) < i by omega, hk, hLl, hTlen, a1, a2, ak, mk, tFR, hFl, hFp, Nat.zero_add, Int.toNat_natCast, show (0 : Int) ≤ (k : Int) by omega, h', Int.ofNat_lt, decide_true, decide_false, bne_self_eq_false] <;> try with_reducible rfl) | apply Wp.block | apply Wp.exitS | apply Wp.retS | apply Wp.exit | apply Wp.ret | apply Wp.skip)
      apply round_next
      ·simp -implicitDefEqProofs (maxSteps := 2000000) (disch := first | exact tt_rfl rfl | omega | (simp only [go_sem] <;> omega) | fail) only [go_sem, norm_eq, Ok.some]; with_reducible rfl
      exact ⟨hp', by simp, trivial⟩
     | true =>
      rcases fk rfl with g | ⟨g1, g2⟩
      ·repeat (first | apply Wp.seqA | apply Wp.skipS | apply Wp.blockS | ((first | apply Wp.regS | apply Wp.condV | apply Wp.reg | apply Wp.condW | apply fin_ret); simp -implicitDefEqProofs (maxSteps := 2000000) (disch := first | exact tt_rfl rfl | omega | (simp only [go_sem] <;> omega) | fail) only [go_sem, show (k : Int) < i by omega, hk, hLl, hTlen, a1, a2, ak, mk, tFR, hFl, hFp, Nat.zero_add, Int.toNat_natCast, show (0 : Int) ≤ (k : Int) by omega, show ¬ (LK : Int) < (V2 : Int) by omega, show ¬ (LK : Int) = (V2 : Int) by omega, h', Int.ofNat_lt, decide_true, decide_false, bne_self_eq_false] <;> try with_reducible rfl) | apply Wp.block | apply Wp.exitS | apply Wp.retS | apply Wp.exit | apply Wp.ret | apply Wp.skip)
       apply round_next
       ·simp -implicitDefEqProofs (maxSteps := 2000000) (disch := first | exact tt_rfl rfl | omega | (simp only [go_sem] <;> omega) | fail) only [go_sem, norm_eq, Ok.some]; with_reducible rfl
       exact ⟨hp', by simp, trivial⟩
      ·subst g1
       repeat (first | apply Wp.seqA | apply Wp.skipS | apply Wp.blockS | ((first | apply Wp.regS | apply Wp.condV | apply Wp.reg | apply Wp.condW | apply fin_ret); simp -implicitDefEqProofs (maxSteps := 2000000) (disch := first | exact tt_rfl rfl | omega | (simp only [go_sem] <;> omega) | fail) only [go_sem, show (k : Int) < i by omega, hk, hLl, hTlen, a1, a2, ak, mk, tFR, hFl, hFp, Nat.zero_add, Int.toNat_natCast, show (0 : Int) ≤ (k : Int) by omega, show ¬ (k : Int) < V1 by omega, h', Int.ofNat_lt, Nat.lt_irrefl, Int.lt_irrefl, decide_true, decide_false, bne_self_eq_false] <;> try with_reducible rfl) | apply Wp.block | apply Wp.exitS | apply Wp.retS | apply Wp.exit | apply Wp.ret | apply Wp.skip)
       apply round_next
       ·simp -implicitDefEqProofs (maxSteps := 2000000) (disch := first | exact tt_rfl rfl | omega | (simp only [go_sem] <;> omega) | fail) only [go_sem, norm_eq, Ok.some]; with_reducible rfl
       exact ⟨hp', by simp, trivial⟩
   ·obtain rfl : p = i + 1 := by omega
    repeat (first | apply Wp.seqA | apply Wp.skipS | apply Wp.blockS | ((first | apply Wp.regS | apply Wp.condV | apply Wp.reg | apply Wp.condW | apply fin_ret); simp -implicitDefEqProofs (maxSteps := 2000000) (disch := first | exact tt_rfl rfl | omega | (simp only [go_sem] <;> omega) | fail) only [go_sem, show ¬ (((i + 1 : Nat) : Int) - 1) < (i : Int) by omega] <;> try with_reducible rfl) | apply Wp.block | apply Wp.exitS | apply Wp.retS | apply Wp.exit | apply Wp.ret | apply Wp.skip)
    apply round_next
    ·simp -implicitDefEqProofs (maxSteps := 2000000) (disch := first | exact tt_rfl rfl | omega | (simp only [go_sem] <;> omega) | fail) only [go_sem, norm_eq, Ok.some]; with_reducible rfl
    exact ⟨h', by rw [hssi]; simp, trivial⟩
 ·obtain rfl : i = N := by omega
  repeat (first | apply Wp.seqA | apply Wp.skipS | apply Wp.blockS | ((first | apply Wp.regS | apply Wp.condV | apply Wp.reg | apply Wp.condW | apply fin_ret); simp -implicitDefEqProofs (maxSteps := 2000000) (disch := first | exact tt_rfl rfl | omega | (simp only [go_sem] <;> omega) | fail) only [go_sem, Int.lt_irrefl, hLl, kn] <;> try with_reducible rfl) | apply Wp.block | apply Wp.exitS | apply Wp.retS | apply Wp.exit | apply Wp.ret | apply Wp.skip)
end Go.Abs

set_option linter.all false
namespace Go.Abs
theorem copyOrder_ok (x : PressB) : lim F 9 [x.av] = some (.bool true, []) := order_main known_ok x
end Go.Abs
