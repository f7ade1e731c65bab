/-
  BeamNearer: what it looks at is so, for every take-up in bytes, every shop and all bytes.
-/
import Derived.Test.YtbmihapnaclidaaLNearT
set_option linter.all false
namespace Go.Abs
set_option maxRecDepth 10000
set_option maxHeartbeats 8000000

/-- which wheels are used -/
def usedV (L : Nat) (l : List Int) : List AV := (List.range L).map fun (k : Nat) => .bool (decide ((k : Int) ∈ l))
theorem usedV_len (L : Nat) (l : List Int) : (usedV L l).length = L := by simp [usedV]
theorem usedV_nil (L : Nat) : usedV L [] = List.replicate L (.bool false) := by
  apply List.ext_getElem
  · simp [usedV]
  · intro n h1 h2; simp [usedV]
theorem usedV_get {L : Nat} {l : List Int} {e : Int} (h : 0 ≤ e ∧ e < L) (hn : e ∉ l) : (usedV L l)[e.toNat]? = some (.bool false) := by
  unfold usedV
  rw [List.getElem?_map, List.getElem?_eq_getElem (by simp; omega)]
  simp only [List.getElem_range, Option.map_some]
  rw [show ((e.toNat : Nat) : Int) = e by omega, decide_eq_false hn]
theorem usedV_set {L : Nat} {l : List Int} {e : Int} (h : 0 ≤ e ∧ e < L) : (usedV L l).set e.toNat (.bool true) = usedV L (l ++ [e]) := by
  apply List.ext_getElem
  · simp [usedV]
  · intro n h1 h2
    rw [List.getElem_set]
    simp only [usedV, List.getElem_map, List.getElem_range, List.mem_append, List.mem_singleton]
    split
    · rename_i he
      rw [decide_eq_true (by right; omega)]
    · rename_i he
      congr 1
      apply decide_eq_decide.2
      constructor
      · intro h; exact .inl h
      · rintro (h | h)
        · exact h
        · omega
theorem nearer_main (x : GearA) (sh : List (Fin 256)) (v0 v1 v2 v3 v4 v5 : Fin 256) : lim F 9 [x.av, .list 1 (sh.map fun n => .int .u8 (n.1 : Int)), .agg [.int .u8 (v0.1 : Int), .int .u8 (v1.1 : Int), .int .u8 (v2.1 : Int), .int .u8 (v3.1 : Int), .int .u8 (v4.1 : Int), .int .u8 (v5.1 : Int)]] = some (.bool true, []) := by
  have kn := known_ok
  have h0 := gearTake_ok x
  obtain ⟨t, ht⟩ : ∃ t, t = gearT x := ⟨_, rfl⟩
  rw [← ht] at h0
  have hc : checkT t = 0 := by rw [ht]; exact gearT_ok x
  clear ht
  obtain ⟨ws, hws⟩ : ∃ ws : List Int, ws = (sh.map teethN).take 8 := ⟨_, rfl⟩
  obtain ⟨L, hL⟩ : ∃ L : Nat, L = ws.length := ⟨_, rfl⟩
  have hL8 : L = min 8 sh.length := by rw [hL, hws]; simp
  have hs : ShopOk t ws := ⟨hc, by omega, fun n hn => by
    rw [hws] at hn
    obtain ⟨q, _, rfl⟩ := List.mem_map.1 (List.mem_of_mem_take hn)
    exact teethN_in q⟩
  have b0 := v0.2
  have b1 := v1.2
  have b2 := v2.2
  have b3 := v3.2
  have b4 := v4.2
  have b5 := v5.2
  obtain ⟨p, hp⟩ : ∃ p : Nat, p = v3.1 % 3 := ⟨_, rfl⟩
  obtain ⟨wn, hwn⟩ : ∃ wn : Int, wn = 1 + 200 * (v0.1 : Int) + (v1.1 : Int) := ⟨_, rfl⟩
  obtain ⟨wd, hwd⟩ : ∃ wd : Int, wd = 1 + ((v2.1 % 100 : Nat) : Int) := ⟨_, rfl⟩
  have hw : WantOk wn wd := by omega
  have e2 := tmod_nat v2.1 100
  rw [show ((100 : Nat) : Int) = 100 from rfl] at e2
  have e3 := tmod_nat v3.1 3
  rw [show ((3 : Nat) : Int) = 3 from rfl, ← hp] at e3
  obtain ⟨q, hN, R, rfl, hR⟩ := Nearest_ok t ws wn wd p hs hw (by omega)
  have ho := own_ok t (by have := (checkT_zero hc).1; omega)
  have hi := eInts_ok ws (by omega)
  have hrt := ratioF_ok wn wd
  have hbe : bestOf wn wd ⟨t, ws, []⟩ (upTo ⟨t, ws, []⟩ p) = nearestW t ws wn wd p := rfl
  rw [hbe] at hN hR
  obtain ⟨b, hb⟩ : ∃ b, b = nearestW t ws wn wd p := ⟨_, rfl⟩
  have hbt := nearest_tried (t := t) (shop := ws) wn wd p
  rw [← hb] at hN hR hbt
  obtain ⟨hbp, hbk, hbq⟩ := tried_picked hbt
  have hbc : checkT (wheelT b) = 0 := by
    obtain ⟨k, hk, hg⟩ := tried_good hbt
    exact good_check hs hg (by omega)
  have h7 := with1_ok t ws b.ps hbk (by omega) (by omega)
  rw [← hbq] at h7
  have hWt : wheelT b = ⟨t.rat, t.step, (wheelT b).pairs, t.round⟩ := by rw [hbq]; rfl
  have nb := nT_bound hbc
  have mb := numT_bound hbc
  have cb : 0 ≤ numT (wheelT b) * dT (wheelT b) ∧ numT (wheelT b) * dT (wheelT b) ≤ 25000000000 * 1000000 := ⟨Int.mul_nonneg (by omega) (by omega), Int.mul_le_mul (by omega) (by omega) (by omega) (by omega)⟩
  have h9 := same_ok (numT (wheelT b)) (denT (wheelT b)) (nT (wheelT b)) (dT (wheelT b)) (by omega) (by omega) (by omega) (by omega) (cross_eqN _ hbc) (by omega)
  have h8 := parts_ok (wheelT b) hbc
  unfold TakeA.av at h7 h8
  rw [show (wheelT b).rat = t.rat by rw [hWt], show (wheelT b).step = t.step by rw [hWt], show (wheelT b).round = t.round by rw [hWt]] at h8
  clear hWt cb
  have hpl : ((wheelT b).pairs.map PairT.av).all AV.plain = true := by simp [PairT.av, AV.plain, AV.plain1]
  have hwl : (ws.map fun n => iv n).length = L := by simp [hL]
  have tk : (ws.map fun n => iv n).take L = ws.map fun n => iv n := List.take_of_length_le (by omega)
  unfold takeV at hN
  unfold GearA.av at *
  unfold TakeA.av at ho hN
  refine lim_by (fn := a9) (k := 3) (res := [.tmp 6]) rfl rfl rfl (by simp -implicitDefEqProofs (maxSteps := 2000000) (disch := first | exact tt_rfl rfl | omega | (simp only [go_sem] <;> omega) | fail) only [go_sem]) ?_
  simp -implicitDefEqProofs (maxSteps := 2000000) (disch := first | exact tt_rfl rfl | omega | (simp only [go_sem] <;> omega) | fail) only [go_sem]
  refine Wp.cutP (fun fr => fr = ⟨[(1, .list 1 (sh.map fun n => .int .u8 (n.1 : Int))), (5, .ptr 320 0 0), (7, .ptr 448 0 0), (8, .slice 512 0 L), (9, iv L), (46, .bool false)], [(320, .box [.int .u8 (v0.1 : Int), .int .u8 (v1.1 : Int), .int .u8 (v2.1 : Int), .int .u8 (v3.1 : Int), .int .u8 (v4.1 : Int), .int .u8 (v5.1 : Int)]), (448, .box [iv t.rat, iv t.step, .slice 307170 0 t.pairs.length, iv t.round]), (512, .arr 1 (ws.map fun n => iv n)), (307170, .arr 2 (t.pairs.map PairT.av))], [], 10000256⟩) 3 _ _ ?_ ?_
  · dsimp only [frontC]
    repeat (first | apply Wp.seqA | apply Wp.skipS | apply Wp.blockS | ((first | apply Wp.regS | apply Wp.condV | apply Wp.reg | apply Wp.condW | apply fin_ret); simp -implicitDefEqProofs (maxSteps := 2000000) (disch := first | exact tt_rfl rfl | omega | (simp only [go_sem] <;> omega) | fail) only [go_sem, h0] <;> try with_reducible rfl) | apply Wp.block | apply Wp.exitS | apply Wp.retS | apply Wp.exit | apply Wp.ret | apply Wp.skip)
    apply Wp.loopF L (fun i => ⟨[(1, .list 1 (sh.map fun n => .int .u8 (n.1 : Int))), (5, .ptr 320 0 0), (7, .ptr 448 0 0), (8, .slice 512 0 i), (9, iv i)], [(320, .box [.int .u8 (v0.1 : Int), .int .u8 (v1.1 : Int), .int .u8 (v2.1 : Int), .int .u8 (v3.1 : Int), .int .u8 (v4.1 : Int), .int .u8 (v5.1 : Int)]), (448, .box [iv t.rat, iv t.step, .slice 307170 0 t.pairs.length, iv t.round]), (512, .arr 1 ((ws.take i).map fun n => iv n)), (307170, .arr 2 (t.pairs.map PairT.av))], [], 10000000⟩) (fun _ => True)
    · simp -implicitDefEqProofs (maxSteps := 2000000) (disch := first | exact tt_rfl rfl | omega | (simp only [go_sem] <;> omega) | fail) only [go_sem, norm_eq, Ok.some]
      simp
    · trivial
    intro i hi1 _
    have hlen : ((ws.take i).map fun n => iv n).length = i := by simp; omega
    by_cases hlt : i < L
    · have t1 := teeth1_ok sh[i]
      have e4 : ((ws.take (i + 1)).map fun n => iv n) = ((ws.take i).map fun n => iv n) ++ [iv (teethN sh[i])] := by
        rw [List.take_succ_eq_append_getElem (by omega), List.map_append]
        simp [hws]
      obtain ⟨es, hes⟩ : ∃ es, es = ((ws.take i).map fun n => iv n) := ⟨_, rfl⟩
      rw [← hes] at hlen e4 ⊢
      repeat (first | apply Wp.seqA | apply Wp.skipS | apply Wp.blockS | ((first | apply Wp.regS | apply Wp.condV | apply Wp.reg | apply Wp.condW | apply fin_ret); simp -implicitDefEqProofs (maxSteps := 2000000) (disch := first | exact tt_rfl rfl | omega | (simp only [go_sem] <;> omega) | fail) only [go_sem, show (i : Int) < sh.length by omega, show (i : Int) < 8 by omega, List.getElem?_map, List.getElem?_eq_getElem (show i < sh.length by omega), Option.map_some, t1, hlen] <;> try with_reducible rfl) | apply Wp.block | apply Wp.exitS | apply Wp.retS | apply Wp.exit | apply Wp.ret | apply Wp.skip)
      apply round_next
      · simp -implicitDefEqProofs (maxSteps := 2000000) (disch := first | exact tt_rfl rfl | omega | (simp only [go_sem] <;> omega) | fail) only [go_sem, norm_eq, Ok.some]; with_reducible rfl
      exact ⟨hlt, by rw [e4]; simp, trivial⟩
    · obtain rfl : L = i := by omega
      rw [show ws.take L = ws by rw [hL]; exact List.take_length] at hlen ⊢
      by_cases h8 : (L : Int) < sh.length
      · repeat (first | apply Wp.seqA | apply Wp.skipS | apply Wp.blockS | ((first | apply Wp.regS | apply Wp.condV | apply Wp.reg | apply Wp.condW | apply fin_ret); simp -implicitDefEqProofs (maxSteps := 2000000) (disch := first | exact tt_rfl rfl | omega | (simp only [go_sem] <;> omega) | fail) only [go_sem, h8, show ¬ (L : Int) < 8 by omega] <;> try with_reducible rfl) | apply Wp.block | apply Wp.exitS | apply Wp.retS | apply Wp.exit | apply Wp.ret | apply Wp.skip)
        exact ⟨rfl, rfl⟩
      · repeat (first | apply Wp.seqA | apply Wp.skipS | apply Wp.blockS | ((first | apply Wp.regS | apply Wp.condV | apply Wp.reg | apply Wp.condW | apply fin_ret); simp -implicitDefEqProofs (maxSteps := 2000000) (disch := first | exact tt_rfl rfl | omega | (simp only [go_sem] <;> omega) | fail) only [go_sem, h8] <;> try with_reducible rfl) | apply Wp.block | apply Wp.exitS | apply Wp.retS | apply Wp.exit | apply Wp.ret | apply Wp.skip)
        exact ⟨rfl, rfl⟩
  · rintro fr' rfl
    dsimp only [backC]
    refine Wp.cutP (fun fr => ∃ (i : Nat) (qs : List P2), Others v4.1 L i qs ∧ 2 * i ≤ L ∧ i ≤ p ∧ fr = ⟨[(5, .ptr 320 0 0), (7, .ptr 448 0 0), (8, .slice 512 0 L), (10, .ptr 640 0 0), (11, iv p), (13, .ptr 832 0 0), (19, .slice 1216 0 (2 * i)), (20, iv (2 * (i : Int))), (165, .bool false)], [(320, .box [.int .u8 (v0.1 : Int), .int .u8 (v1.1 : Int), .int .u8 (v2.1 : Int), .int .u8 (v3.1 : Int), .int .u8 (v4.1 : Int), .int .u8 (v5.1 : Int)]), (448, .box [iv t.rat, iv t.step, .slice 307170 0 t.pairs.length, iv t.round]), (512, .arr 1 (ws.map fun n => iv n)), (640, .box [iv wn, iv wd]), (832, .box [iv (nT (wheelT b)), iv (dT (wheelT b))]), (1216, .arr 1 (nsL qs)), (307170, .arr 2 (t.pairs.map PairT.av))], [], 10000384⟩) 9 _ _ ?_ ?_
    · dsimp only [frontC]
      have z0 : ((0 : Nat) : Int) = 0 := rfl
      have hbl := nsL_len b.ps
      have m2 : Int.tmod ((2 * b.ps.length : Nat) : Int) 2 = 0 := by
        have := tmod_nat (2 * b.ps.length) 2
        rw [show ((2 : Nat) : Int) = 2 from rfl] at this
        rw [this, Nat.mul_mod_right]; rfl
      have m0 : Int.tmod 0 2 = 0 := rfl
      have p2 : ¬ 2 * (p : Int) < 0 := by omega
      have p3 : ¬ 2 * (p : Int) < ((2 * b.ps.length : Nat) : Int) := by omega
      rcases hR with ⟨rfl, hnil⟩ | rfl
      · repeat (first | apply Wp.seqA | apply Wp.skipS | apply Wp.blockS | ((first | apply Wp.regS | apply Wp.condV | apply Wp.reg | apply Wp.condW | apply fin_ret); simp -implicitDefEqProofs (maxSteps := 2000000) (disch := first | exact tt_rfl rfl | omega | (simp only [go_sem] <;> omega) | fail) only [go_sem, e2, e3, ← hwn, ← hwd, hrt, hwl, tk, ho, hi, hN, gt_iff_lt, z0, p2, m0, bne_self_eq_false] <;> try with_reducible rfl) | apply Wp.block | apply Wp.exitS | apply Wp.retS | apply Wp.exit | apply Wp.ret | apply Wp.skip)
        apply Wp.loopF 0 (fun i => ⟨[(5, .ptr 320 0 0), (7, .ptr 448 0 0), (8, .slice 512 0 L), (10, .ptr 640 0 0), (11, iv p), (12, .slice 768 0 0), (13, .ptr 832 0 0), (15, .slice 960 0 L), (16, iv i)], [(320, .box [.int .u8 (v0.1 : Int), .int .u8 (v1.1 : Int), .int .u8 (v2.1 : Int), .int .u8 (v3.1 : Int), .int .u8 (v4.1 : Int), .int .u8 (v5.1 : Int)]), (448, .box [iv t.rat, iv t.step, .slice 307170 0 t.pairs.length, iv t.round]), (512, .arr 1 (ws.map fun n => iv n)), (640, .box [iv wn, iv wd]), (768, .arr 1 []), (832, .box [iv (nT (wheelT b)), iv (dT (wheelT b))]), (960, .arr 1 (List.replicate L (.bool false))), (307170, .arr 2 (t.pairs.map PairT.av))], [], 10000000⟩) (fun _ => True)
        · simp -implicitDefEqProofs (maxSteps := 2000000) (disch := first | exact tt_rfl rfl | omega | (simp only [go_sem] <;> omega) | fail) only [go_sem, norm_eq, Ok.some]
          try rfl
        · trivial
        intro i hi1 _
        obtain rfl : i = 0 := by omega
        rw [hnil] at h7
        simp only [nsL] at h7
        generalize (wheelT b).pairs.map PairT.av = wp at h7 h8 hpl
        generalize numT (wheelT b) = nu at h8 h9
        generalize denT (wheelT b) = de at h8 h9
        repeat (first | apply Wp.seqA | apply Wp.skipS | apply Wp.blockS | ((first | apply Wp.regS | apply Wp.condV | apply Wp.reg | apply Wp.condW | apply fin_ret); simp -implicitDefEqProofs (maxSteps := 2000000) (disch := first | exact tt_rfl rfl | omega | (simp only [go_sem] <;> omega) | fail) only [go_sem, z0, hwl, tk, List.take_length, h7, hpl, h8, h9] <;> try with_reducible rfl) | apply Wp.block | apply Wp.exitS | apply Wp.retS | apply Wp.exit | apply Wp.ret | apply Wp.skip)
        refine Wp.loopN p (fun i fr => ∃ qs : List P2, Others v4.1 L i qs ∧ 2 * i ≤ L ∧ fr = ⟨[(5, .ptr 320 0 0), (7, .ptr 448 0 0), (8, .slice 512 0 L), (10, .ptr 640 0 0), (11, iv p), (13, .ptr 832 0 0), (19, .slice 1216 0 (2 * i)), (20, iv (2 * (i : Int)))], [(320, .box [.int .u8 (v0.1 : Int), .int .u8 (v1.1 : Int), .int .u8 (v2.1 : Int), .int .u8 (v3.1 : Int), .int .u8 (v4.1 : Int), .int .u8 (v5.1 : Int)]), (448, .box [iv t.rat, iv t.step, .slice 307170 0 t.pairs.length, iv t.round]), (512, .arr 1 (ws.map fun n => iv n)), (640, .box [iv wn, iv wd]), (832, .box [iv (nT (wheelT b)), iv (dT (wheelT b))]), (1216, .arr 1 (nsL qs)), (307170, .arr 2 (t.pairs.map PairT.av))], [], 10000000⟩) ?_ ?_
        · simp -implicitDefEqProofs (maxSteps := 2000000) (disch := first | exact tt_rfl rfl | omega | (simp only [go_sem] <;> omega) | fail) only [go_sem, norm_eq, Ok.some]
          exact ⟨[], others_zero _ _, by omega, rfl⟩
        rintro i fr hi1 ⟨qs, hq, hqL, rfl⟩
        have hql : (nsL qs).length = 2 * i := by rw [nsL_len, hq.l]
        by_cases g1 : 2 * i + 1 < L
        · by_cases g2 : i < p
          · have r1 : Int.tmod ((v4.1 : Int) + 2 * (i : Int)) (L : Int) = (((v4.1 + 2 * i) % L : Nat) : Int) := by
              rw [show (v4.1 : Int) + 2 * (i : Int) = ((v4.1 + 2 * i : Nat) : Int) by omega]; exact tmod_nat _ _
            have r2 : Int.tmod ((v4.1 : Int) + 2 * (i : Int) + 1) (L : Int) = (((v4.1 + 2 * i + 1) % L : Nat) : Int) := by
              rw [show (v4.1 : Int) + 2 * (i : Int) + 1 = ((v4.1 + 2 * i + 1 : Nat) : Int) by omega]; exact tmod_nat _ _
            have q1 := hq.one
            have q2 := hq.two
            repeat (first | apply Wp.seqA | apply Wp.skipS | apply Wp.blockS | ((first | apply Wp.regS | apply Wp.condV | apply Wp.reg | apply Wp.condW | apply fin_ret); simp -implicitDefEqProofs (maxSteps := 2000000) (disch := first | exact tt_rfl rfl | omega | (simp only [go_sem] <;> omega) | fail) only [go_sem, show 2 * (i : Int) + 1 < L by omega, show ((2 * i : Nat) : Int) < 2 * (p : Int) by omega, hql, r1, r2, show ¬ (L : Int) = 0 by omega] <;> try with_reducible rfl) | apply Wp.block | apply Wp.exitS | apply Wp.retS | apply Wp.exit | apply Wp.ret | apply Wp.skip)
            generalize decide (_ = (1 : Int)) = qb
            have qe : ∀ p : P2, nsL (qs ++ [p]) = nsL qs ++ [iv p.1, iv p.2] := fun p => by rw [nsL_map, nsL_map, nsI_snoc, List.map_append]; rfl
            have k1 := qe ((((v4.1 + 2 * i) % L : Nat) : Int), (((v4.1 + 2 * i + 1) % L : Nat) : Int))
            have k2 := qe ((((v4.1 + 2 * i + 1) % L : Nat) : Int), (((v4.1 + 2 * i) % L : Nat) : Int))
            cases qb
            · repeat (first | apply Wp.seqA | apply Wp.skipS | apply Wp.blockS | ((first | apply Wp.regS | apply Wp.condV | apply Wp.reg | apply Wp.condW | apply fin_ret); simp -implicitDefEqProofs (maxSteps := 2000000) (disch := first | exact tt_rfl rfl | omega | (simp only [go_sem] <;> omega) | fail) only [go_sem] <;> try with_reducible rfl) | apply Wp.block | apply Wp.exitS | apply Wp.retS | apply Wp.exit | apply Wp.ret | apply Wp.skip)
              first | apply Wp.meetS | apply Wp.meetE
              · simp -implicitDefEqProofs (maxSteps := 2000000) (disch := first | exact tt_rfl rfl | omega | (simp only [go_sem] <;> omega) | fail) only [go_sem, norm_eq, Ok.some]; with_reducible rfl
              repeat (first | apply Wp.seqA | apply Wp.skipS | apply Wp.blockS | ((first | apply Wp.regS | apply Wp.condV | apply Wp.reg | apply Wp.condW | apply fin_ret); simp -implicitDefEqProofs (maxSteps := 2000000) (disch := first | exact tt_rfl rfl | omega | (simp only [go_sem] <;> omega) | fail) only [go_sem, hql] <;> try with_reducible rfl) | apply Wp.block | apply Wp.exitS | apply Wp.retS | apply Wp.exit | apply Wp.ret | apply Wp.skip)
              apply round_next
              · simp -implicitDefEqProofs (maxSteps := 2000000) (disch := first | exact tt_rfl rfl | omega | (simp only [go_sem] <;> omega) | fail) only [go_sem, norm_eq, Ok.some]; with_reducible rfl
              exact ⟨g2, _, q1, by omega, by rw [k1, show 2 * ((i + 1 : Nat) : Int) = 2 * (i : Int) + 2 by omega]; rfl⟩
            · repeat (first | apply Wp.seqA | apply Wp.skipS | apply Wp.blockS | ((first | apply Wp.regS | apply Wp.condV | apply Wp.reg | apply Wp.condW | apply fin_ret); simp -implicitDefEqProofs (maxSteps := 2000000) (disch := first | exact tt_rfl rfl | omega | (simp only [go_sem] <;> omega) | fail) only [go_sem, hql, r1, r2, show ¬ (L : Int) = 0 by omega] <;> try with_reducible rfl) | apply Wp.block | apply Wp.exitS | apply Wp.retS | apply Wp.exit | apply Wp.ret | apply Wp.skip)
              first | apply Wp.meetS | apply Wp.meetE
              · simp -implicitDefEqProofs (maxSteps := 2000000) (disch := first | exact tt_rfl rfl | omega | (simp only [go_sem] <;> omega) | fail) only [go_sem, norm_eq, Ok.some]; with_reducible rfl
              repeat (first | apply Wp.seqA | apply Wp.skipS | apply Wp.blockS | ((first | apply Wp.regS | apply Wp.condV | apply Wp.reg | apply Wp.condW | apply fin_ret); simp -implicitDefEqProofs (maxSteps := 2000000) (disch := first | exact tt_rfl rfl | omega | (simp only [go_sem] <;> omega) | fail) only [go_sem, hql] <;> try with_reducible rfl) | apply Wp.block | apply Wp.exitS | apply Wp.retS | apply Wp.exit | apply Wp.ret | apply Wp.skip)
              apply round_next
              · simp -implicitDefEqProofs (maxSteps := 2000000) (disch := first | exact tt_rfl rfl | omega | (simp only [go_sem] <;> omega) | fail) only [go_sem, norm_eq, Ok.some]; with_reducible rfl
              exact ⟨g2, _, q2, by omega, by rw [k2, show 2 * ((i + 1 : Nat) : Int) = 2 * (i : Int) + 2 by omega]; rfl⟩
          · repeat (first | apply Wp.seqA | apply Wp.skipS | apply Wp.blockS | ((first | apply Wp.regS | apply Wp.condV | apply Wp.reg | apply Wp.condW | apply fin_ret); simp -implicitDefEqProofs (maxSteps := 2000000) (disch := first | exact tt_rfl rfl | omega | (simp only [go_sem] <;> omega) | fail) only [go_sem, show 2 * (i : Int) + 1 < L by omega, show ¬ ((2 * i : Nat) : Int) < 2 * (p : Int) by omega, hql] <;> try with_reducible rfl) | apply Wp.block | apply Wp.exitS | apply Wp.retS | apply Wp.exit | apply Wp.ret | apply Wp.skip)
            exact ⟨rfl, i, qs, hq, hqL, hi1, rfl⟩
        · repeat (first | apply Wp.seqA | apply Wp.skipS | apply Wp.blockS | ((first | apply Wp.regS | apply Wp.condV | apply Wp.reg | apply Wp.condW | apply fin_ret); simp -implicitDefEqProofs (maxSteps := 2000000) (disch := first | exact tt_rfl rfl | omega | (simp only [go_sem] <;> omega) | fail) only [go_sem, show ¬ 2 * (i : Int) + 1 < L by omega] <;> try with_reducible rfl) | apply Wp.block | apply Wp.exitS | apply Wp.retS | apply Wp.exit | apply Wp.ret | apply Wp.skip)
          exact ⟨rfl, i, qs, hq, hqL, hi1, rfl⟩
      · repeat (first | apply Wp.seqA | apply Wp.skipS | apply Wp.blockS | ((first | apply Wp.regS | apply Wp.condV | apply Wp.reg | apply Wp.condW | apply fin_ret); simp -implicitDefEqProofs (maxSteps := 2000000) (disch := first | exact tt_rfl rfl | omega | (simp only [go_sem] <;> omega) | fail) only [go_sem, e2, e3, ← hwn, ← hwd, hrt, hwl, tk, ho, hi, hN, gt_iff_lt, hbl, p3, m2, bne_self_eq_false] <;> try with_reducible rfl) | apply Wp.block | apply Wp.exitS | apply Wp.retS | apply Wp.exit | apply Wp.ret | apply Wp.skip)
        apply Wp.loopF (2 * b.ps.length) (fun i => ⟨[(5, .ptr 320 0 0), (7, .ptr 448 0 0), (8, .slice 512 0 L), (10, .ptr 640 0 0), (11, iv p), (12, .list 1 (nsL b.ps)), (13, .ptr 832 0 0), (15, .slice 960 0 L), (16, iv i)], [(320, .box [.int .u8 (v0.1 : Int), .int .u8 (v1.1 : Int), .int .u8 (v2.1 : Int), .int .u8 (v3.1 : Int), .int .u8 (v4.1 : Int), .int .u8 (v5.1 : Int)]), (448, .box [iv t.rat, iv t.step, .slice 307170 0 t.pairs.length, iv t.round]), (512, .arr 1 (ws.map fun n => iv n)), (640, .box [iv wn, iv wd]), (832, .box [iv (nT (wheelT b)), iv (dT (wheelT b))]), (960, .arr 1 (usedV L ((nsI b.ps).take i))), (307170, .arr 2 (t.pairs.map PairT.av))], [], 10000000⟩) (fun _ => True)
        · simp -implicitDefEqProofs (maxSteps := 2000000) (disch := first | exact tt_rfl rfl | omega | (simp only [go_sem] <;> omega) | fail) only [go_sem, norm_eq, Ok.some]
          simp [usedV_nil]
        · trivial
        intro i hi1 _
        by_cases hlt : i < 2 * b.ps.length
        · obtain ⟨e, hie⟩ : ∃ e, (nsI b.ps)[i]'(by rw [nsI_len]; exact hlt) = e := ⟨_, rfl⟩
          have u0 := hbk.i e (by rw [← hie]; exact List.getElem_mem _)
          have u1 : (nsL b.ps)[i]? = some (iv e) := by rw [nsL_map, List.getElem?_map, List.getElem?_eq_getElem (by rw [nsI_len]; exact hlt), hie]; rfl
          have u2 : (nsI b.ps).take (i + 1) = (nsI b.ps).take i ++ [e] := by rw [List.take_succ_eq_append_getElem (by rw [nsI_len]; exact hlt), hie]
          have u3 : e ∉ (nsI b.ps).take i := by
            have := (hbk.u).sublist (List.take_sublist (i + 1) _)
            rw [u2] at this
            intro hm
            exact (List.nodup_append.1 this).2.2 e hm e (by simp) rfl
          have u4 := usedV_get (L := L) (l := (nsI b.ps).take i) (e := e) (by omega) u3
          have u5 := usedV_set (L := L) (l := (nsI b.ps).take i) (e := e) (by omega)
          have u6 := usedV_len L ((nsI b.ps).take i)
          rw [← u2] at u5
          obtain ⟨us, hus⟩ : ∃ us, us = usedV L ((nsI b.ps).take i) := ⟨_, rfl⟩
          rw [← hus] at u4 u5 u6 ⊢
          clear h7 h8 h9 hN
          repeat (first | apply Wp.seqA | apply Wp.skipS | apply Wp.blockS | ((first | apply Wp.regS | apply Wp.condV | apply Wp.reg | apply Wp.condW | apply fin_ret); simp -implicitDefEqProofs (maxSteps := 2000000) (disch := first | exact tt_rfl rfl | omega | (simp only [go_sem] <;> omega) | fail) only [go_sem, hbl, hlt, Int.ofNat_lt, u1, show ¬ e < 0 by omega, show ¬ (L : Int) ≤ e by omega, ge_iff_le, u4, u5, u6] <;> try with_reducible rfl) | apply Wp.block | apply Wp.exitS | apply Wp.retS | apply Wp.exit | apply Wp.ret | apply Wp.skip)
          apply round_next
          · simp -implicitDefEqProofs (maxSteps := 2000000) (disch := first | exact tt_rfl rfl | omega | (simp only [go_sem] <;> omega) | fail) only [go_sem, norm_eq, Ok.some]; with_reducible rfl
          exact ⟨hlt, by simp, trivial⟩
        · obtain rfl : i = 2 * b.ps.length := by omega
          generalize usedV L ((nsI b.ps).take (2 * b.ps.length)) = us
          generalize (wheelT b).pairs.map PairT.av = wp at h7 h8 hpl
          generalize numT (wheelT b) = nu at h8 h9
          generalize denT (wheelT b) = de at h8 h9
          repeat (first | apply Wp.seqA | apply Wp.skipS | apply Wp.blockS | ((first | apply Wp.regS | apply Wp.condV | apply Wp.reg | apply Wp.condW | apply fin_ret); simp -implicitDefEqProofs (maxSteps := 2000000) (disch := first | exact tt_rfl rfl | omega | (simp only [go_sem] <;> omega) | fail) only [go_sem, hbl, Int.lt_irrefl, hwl, tk, List.take_length, h7, hpl, h8, h9] <;> try with_reducible rfl) | apply Wp.block | apply Wp.exitS | apply Wp.retS | apply Wp.exit | apply Wp.ret | apply Wp.skip)
          refine Wp.loopN p (fun i fr => ∃ qs : List P2, Others v4.1 L i qs ∧ 2 * i ≤ L ∧ fr = ⟨[(5, .ptr 320 0 0), (7, .ptr 448 0 0), (8, .slice 512 0 L), (10, .ptr 640 0 0), (11, iv p), (13, .ptr 832 0 0), (19, .slice 1216 0 (2 * i)), (20, iv (2 * (i : Int)))], [(320, .box [.int .u8 (v0.1 : Int), .int .u8 (v1.1 : Int), .int .u8 (v2.1 : Int), .int .u8 (v3.1 : Int), .int .u8 (v4.1 : Int), .int .u8 (v5.1 : Int)]), (448, .box [iv t.rat, iv t.step, .slice 307170 0 t.pairs.length, iv t.round]), (512, .arr 1 (ws.map fun n => iv n)), (640, .box [iv wn, iv wd]), (832, .box [iv (nT (wheelT b)), iv (dT (wheelT b))]), (1216, .arr 1 (nsL qs)), (307170, .arr 2 (t.pairs.map PairT.av))], [], 10000000⟩) ?_ ?_
          · simp -implicitDefEqProofs (maxSteps := 2000000) (disch := first | exact tt_rfl rfl | omega | (simp only [go_sem] <;> omega) | fail) only [go_sem, norm_eq, Ok.some]
            exact ⟨[], others_zero _ _, by omega, rfl⟩
          rintro i fr hi1 ⟨qs, hq, hqL, rfl⟩
          have hql : (nsL qs).length = 2 * i := by rw [nsL_len, hq.l]
          by_cases g1 : 2 * i + 1 < L
          · by_cases g2 : i < p
            · have r1 : Int.tmod ((v4.1 : Int) + 2 * (i : Int)) (L : Int) = (((v4.1 + 2 * i) % L : Nat) : Int) := by
                rw [show (v4.1 : Int) + 2 * (i : Int) = ((v4.1 + 2 * i : Nat) : Int) by omega]; exact tmod_nat _ _
              have r2 : Int.tmod ((v4.1 : Int) + 2 * (i : Int) + 1) (L : Int) = (((v4.1 + 2 * i + 1) % L : Nat) : Int) := by
                rw [show (v4.1 : Int) + 2 * (i : Int) + 1 = ((v4.1 + 2 * i + 1 : Nat) : Int) by omega]; exact tmod_nat _ _
              have q1 := hq.one
              have q2 := hq.two
              repeat (first | apply Wp.seqA | apply Wp.skipS | apply Wp.blockS | ((first | apply Wp.regS | apply Wp.condV | apply Wp.reg | apply Wp.condW | apply fin_ret); simp -implicitDefEqProofs (maxSteps := 2000000) (disch := first | exact tt_rfl rfl | omega | (simp only [go_sem] <;> omega) | fail) only [go_sem, show 2 * (i : Int) + 1 < L by omega, show ((2 * i : Nat) : Int) < 2 * (p : Int) by omega, hql, r1, r2, show ¬ (L : Int) = 0 by omega] <;> try with_reducible rfl) | apply Wp.block | apply Wp.exitS | apply Wp.retS | apply Wp.exit | apply Wp.ret | apply Wp.skip)
              generalize decide (_ = (1 : Int)) = qb
              have qe : ∀ p : P2, nsL (qs ++ [p]) = nsL qs ++ [iv p.1, iv p.2] := fun p => by rw [nsL_map, nsL_map, nsI_snoc, List.map_append]; rfl
              have k1 := qe ((((v4.1 + 2 * i) % L : Nat) : Int), (((v4.1 + 2 * i + 1) % L : Nat) : Int))
              have k2 := qe ((((v4.1 + 2 * i + 1) % L : Nat) : Int), (((v4.1 + 2 * i) % L : Nat) : Int))
              cases qb
              · repeat (first | apply Wp.seqA | apply Wp.skipS | apply Wp.blockS | ((first | apply Wp.regS | apply Wp.condV | apply Wp.reg | apply Wp.condW | apply fin_ret); simp -implicitDefEqProofs (maxSteps := 2000000) (disch := first | exact tt_rfl rfl | omega | (simp only [go_sem] <;> omega) | fail) only [go_sem] <;> try with_reducible rfl) | apply Wp.block | apply Wp.exitS | apply Wp.retS | apply Wp.exit | apply Wp.ret | apply Wp.skip)
                first | apply Wp.meetS | apply Wp.meetE
                · simp -implicitDefEqProofs (maxSteps := 2000000) (disch := first | exact tt_rfl rfl | omega | (simp only [go_sem] <;> omega) | fail) only [go_sem, norm_eq, Ok.some]; with_reducible rfl
                repeat (first | apply Wp.seqA | apply Wp.skipS | apply Wp.blockS | ((first | apply Wp.regS | apply Wp.condV | apply Wp.reg | apply Wp.condW | apply fin_ret); simp -implicitDefEqProofs (maxSteps := 2000000) (disch := first | exact tt_rfl rfl | omega | (simp only [go_sem] <;> omega) | fail) only [go_sem, hql] <;> try with_reducible rfl) | apply Wp.block | apply Wp.exitS | apply Wp.retS | apply Wp.exit | apply Wp.ret | apply Wp.skip)
                apply round_next
                · simp -implicitDefEqProofs (maxSteps := 2000000) (disch := first | exact tt_rfl rfl | omega | (simp only [go_sem] <;> omega) | fail) only [go_sem, norm_eq, Ok.some]; with_reducible rfl
                exact ⟨g2, _, q1, by omega, by rw [k1, show 2 * ((i + 1 : Nat) : Int) = 2 * (i : Int) + 2 by omega]; rfl⟩
              · repeat (first | apply Wp.seqA | apply Wp.skipS | apply Wp.blockS | ((first | apply Wp.regS | apply Wp.condV | apply Wp.reg | apply Wp.condW | apply fin_ret); simp -implicitDefEqProofs (maxSteps := 2000000) (disch := first | exact tt_rfl rfl | omega | (simp only [go_sem] <;> omega) | fail) only [go_sem, hql, r1, r2, show ¬ (L : Int) = 0 by omega] <;> try with_reducible rfl) | apply Wp.block | apply Wp.exitS | apply Wp.retS | apply Wp.exit | apply Wp.ret | apply Wp.skip)
                first | apply Wp.meetS | apply Wp.meetE
                · simp -implicitDefEqProofs (maxSteps := 2000000) (disch := first | exact tt_rfl rfl | omega | (simp only [go_sem] <;> omega) | fail) only [go_sem, norm_eq, Ok.some]; with_reducible rfl
                repeat (first | apply Wp.seqA | apply Wp.skipS | apply Wp.blockS | ((first | apply Wp.regS | apply Wp.condV | apply Wp.reg | apply Wp.condW | apply fin_ret); simp -implicitDefEqProofs (maxSteps := 2000000) (disch := first | exact tt_rfl rfl | omega | (simp only [go_sem] <;> omega) | fail) only [go_sem, hql] <;> try with_reducible rfl) | apply Wp.block | apply Wp.exitS | apply Wp.retS | apply Wp.exit | apply Wp.ret | apply Wp.skip)
                apply round_next
                · simp -implicitDefEqProofs (maxSteps := 2000000) (disch := first | exact tt_rfl rfl | omega | (simp only [go_sem] <;> omega) | fail) only [go_sem, norm_eq, Ok.some]; with_reducible rfl
                exact ⟨g2, _, q2, by omega, by rw [k2, show 2 * ((i + 1 : Nat) : Int) = 2 * (i : Int) + 2 by omega]; rfl⟩
            · repeat (first | apply Wp.seqA | apply Wp.skipS | apply Wp.blockS | ((first | apply Wp.regS | apply Wp.condV | apply Wp.reg | apply Wp.condW | apply fin_ret); simp -implicitDefEqProofs (maxSteps := 2000000) (disch := first | exact tt_rfl rfl | omega | (simp only [go_sem] <;> omega) | fail) only [go_sem, show 2 * (i : Int) + 1 < L by omega, show ¬ ((2 * i : Nat) : Int) < 2 * (p : Int) by omega, hql] <;> try with_reducible rfl) | apply Wp.block | apply Wp.exitS | apply Wp.retS | apply Wp.exit | apply Wp.ret | apply Wp.skip)
              exact ⟨rfl, i, qs, hq, hqL, hi1, rfl⟩
          · repeat (first | apply Wp.seqA | apply Wp.skipS | apply Wp.blockS | ((first | apply Wp.regS | apply Wp.condV | apply Wp.reg | apply Wp.condW | apply fin_ret); simp -implicitDefEqProofs (maxSteps := 2000000) (disch := first | exact tt_rfl rfl | omega | (simp only [go_sem] <;> omega) | fail) only [go_sem, show ¬ 2 * (i : Int) + 1 < L by omega] <;> try with_reducible rfl) | apply Wp.block | apply Wp.exitS | apply Wp.retS | apply Wp.exit | apply Wp.ret | apply Wp.skip)
            exact ⟨rfl, i, qs, hq, hqL, hi1, rfl⟩
    · rintro fr' ⟨i, qs, hq, hqL, hip, rfl⟩
      exact nearer_tail t ws L p wn wd v0 v1 v2 v3 v4 v5 b i qs hs hL hw (by omega) hb hq hqL hip
theorem arr6n {α : Type} (x : Arr α 6) : ∃ a b c d e f, x.1 = [a, b, c, d, e, f] := by
  obtain ⟨l, hl⟩ := x
  match l, hl with
  | [a, b, c, d, e, f], _ => exact ⟨a, b, c, d, e, f, rfl⟩
theorem beamNearer_ok (x : GearA) (sh : List (Fin 256)) (v : Arr (Fin 256) 6) : lim F 9 [x.av, .list 1 (sh.map fun n => .int .u8 (n.1 : Int)), .agg (v.1.flatMap fun n => [.int .u8 (n.1 : Int)])] = some (.bool true, []) := by
  obtain ⟨a, b, c, d, e, f, ev⟩ := arr6n v
  rw [ev]
  exact nearer_main x sh a b c d e f
end Go.Abs
