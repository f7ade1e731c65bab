/-
  Chapter 6: contract of Nearest. No condition beyond those that each theorem names.
-/
import Derived.Test.YtbmihapnaclidaaN5
import Derived.Test.YtbmihapnaclidaaWpE
set_option linter.all false
namespace Go.Abs
set_option maxRecDepth 10000
set_option maxHeartbeats 8000000

@[go_sem] theorem wheelA_len (l : List WheelA) : (l.map WheelA.av).length = l.length := by simp
abbrev WantOk (wn wd : Int) : Prop := (1 ≤ wn ∧ wn ≤ 1000000) ∧ (1 ≤ wd ∧ wd ≤ 100)
theorem Nearest_ok (t : TakeA) (shop : List Int) (wn wd : Int) (pairs : Nat) (hs : ShopOk t shop) (hw : WantOk wn wd) (hp : pairs ≤ 2) : ∃ q, lim F 24 [t.av, .list 1 (shop.map fun n => iv n), .agg [iv wn, iv wd], iv (pairs : Int)] = some q ∧
    ∃ L, q = (.tuple [L, takeV (wheelT (bestOf wn wd ⟨t, shop, []⟩ (upTo ⟨t, shop, []⟩ pairs))), iv 0], []) ∧ (L = .own 1 [] ∧ (bestOf wn wd ⟨t, shop, []⟩ (upTo ⟨t, shop, []⟩ pairs)).ps = [] ∨ L = .list 1 (nsL (bestOf wn wd ⟨t, shop, []⟩ (upTo ⟨t, shop, []⟩ pairs)).ps)) := by
  obtain ⟨W0, hW0⟩ : ∃ W0 : WheelA, W0 = ⟨t, shop, []⟩ := ⟨_, rfl⟩
  rw [← hW0]
  have hlg : ∀ k, ∀ x ∈ lv W0 k, Good t shop k x := by rw [hW0]; exact lv_good
  have hug : ∀ k, ∀ x ∈ upTo W0 k, ∃ j, j ≤ k ∧ Good t shop j x := by rw [hW0]; exact upTo_good
  have hll : ∀ k, (lv W0 k).length ≤ 64 ^ k := by rw [hW0]; exact lv_len hs.l
  have hav : W0.av = .agg [iv t.rat, iv t.step, .list 2 (t.pairs.map PairT.av), iv t.round, .list 1 (shop.map fun n => iv n), .list 1 []] := by rw [hW0]; rfl
  have c1 := Check_ok t
  rw [hs.c] at c1
  have c2 := teeth_ok shop (by have := hs.l; omega)
  rw [show (shop.all fun n => decide (1 ≤ n ∧ n ≤ 100)) = true from List.all_eq_true.2 fun n hn => decide_eq_true (hs.s n hn)] at c2
  have c3 := within_ok 1 1000000 [wn] (by simp)
  have c4 := teeth_ok [wd] (by simp)
  have c5 := within_ok 0 2 [(pairs : Int)] (by simp)
  simp only [List.map_cons, List.map_nil, List.all_cons, List.all_nil, Bool.and_true] at c3 c4 c5
  rw [decide_eq_true hw.1] at c3
  rw [decide_eq_true hw.2] at c4
  rw [decide_eq_true (show (0 : Int) ≤ pairs ∧ (pairs : Int) ≤ 2 by omega)] at c5
  have hl8 := hs.l
  unfold TakeA.av at *
  refine lim_ex (fn := a24) (k := 4) (res := [.tmp 8, .cell 9 2 true, .tmp 10]) rfl rfl rfl (by simp -implicitDefEqProofs (maxSteps := 2000000) (disch := first | exact tt_rfl rfl | omega | (simp only [go_sem] <;> omega) | fail) only [go_sem]) ?_
  simp -implicitDefEqProofs (maxSteps := 2000000) (disch := first | exact tt_rfl rfl | omega | (simp only [go_sem] <;> omega) | fail) only [go_sem]
  repeat (first | apply Wp.seqA | apply Wp.skipS | apply Wp.blockS | ((first | apply Wp.regS | apply Wp.condV | apply Wp.reg | apply Wp.condW | apply fin_ret); simp -implicitDefEqProofs (maxSteps := 2000000) (disch := first | exact tt_rfl rfl | omega | (simp only [go_sem] <;> omega) | fail) only [go_sem, c1, c2, c3, c4, c5, show ¬ (8 : Int) < shop.length by omega, gt_iff_lt, List.length_map] <;> try with_reducible rfl) | apply Wp.block | apply Wp.exitS | apply Wp.retS | apply Wp.exit | apply Wp.ret | apply Wp.skip)
  apply Wp.loopN pairs (fun k fr => ((fr = ⟨[(6, .ptr 384 0 0), (9, .ptr 576 0 0), (11, .ptr 704 0 0), (12, .slice 768 0 (lv W0 k).length), (55, iv (pairs : Int)), (56, iv (k : Int))], [(384, .box [iv wn, iv wd]), (576, .box [iv 0, iv 0]), (704, .box [iv t.rat, iv t.step, .list 2 (t.pairs.map PairT.av), iv t.round, .list 1 (shop.map fun n => iv n), .slice 311269 0 0]), (768, .arr 6 ((lv W0 k).map WheelA.av)), (311269, .arr 1 [])], [], 10000000⟩ ∧ bestOf wn wd W0 (upTo W0 k) = W0) ∨ fr = ⟨[(6, .ptr 384 0 0), (9, .ptr 576 0 0), (11, .ptr 704 0 0), (12, .slice 768 0 (lv W0 k).length), (55, iv (pairs : Int)), (56, iv (k : Int))], [(384, .box [iv wn, iv wd]), (576, .box [iv 0, iv 0]), (704, .box [iv t.rat, iv t.step, .list 2 (t.pairs.map PairT.av), iv t.round, .list 1 (shop.map fun n => iv n), .list 1 (nsL (bestOf wn wd W0 (upTo W0 k)).ps)]), (768, .arr 6 ((lv W0 k).map WheelA.av))], [], 10000000⟩))
  · simp -implicitDefEqProofs (maxSteps := 2000000) (disch := first | exact tt_rfl rfl | omega | (simp only [go_sem] <;> omega) | fail) only [go_sem, norm_eq, Ok.some]
    refine .inl ⟨?_, rfl⟩
    simp [lv, hav]
  rintro k fr hk hS
  have hlvl : (lv W0 k).length ≤ 4096 := by
    have := hll k
    have h2 : 64 ^ k ≤ 64 ^ 2 := Nat.pow_le_pow_right (by omega) (by omega)
    omega
  by_cases hkp : k < pairs
  · rcases hS with ⟨rfl, hW⟩ | rfl
    · repeat (first | apply Wp.seqA | apply Wp.skipS | apply Wp.blockS | ((first | apply Wp.regS | apply Wp.condV | apply Wp.reg | apply Wp.condW | apply fin_ret); simp -implicitDefEqProofs (maxSteps := 2000000) (disch := first | exact tt_rfl rfl | omega | (simp only [go_sem] <;> omega) | fail) only [go_sem, show (k : Int) < pairs by omega] <;> try with_reducible rfl) | apply Wp.block | apply Wp.exitS | apply Wp.retS | apply Wp.exit | apply Wp.ret | apply Wp.skip)
      obtain ⟨now, hnow⟩ : ∃ now, now = lv W0 k := ⟨_, rfl⟩
      rw [← hnow] at hlvl ⊢
      apply Wp.loopN now.length (fun j fr => ((fr = ⟨[(6, .ptr 384 0 0), (9, .ptr 576 0 0), (11, .ptr 704 0 0), (13, .ptr 832 0 0), (55, iv (pairs : Int)), (56, iv (k : Int)), (58, .slice 3712 0 now.length), (59, iv (now.length : Int)), (60, iv (j : Int))], [(384, .box [iv wn, iv wd]), (576, .box [iv 0, iv 0]), (704, .box [iv t.rat, iv t.step, .list 2 (t.pairs.map PairT.av), iv t.round, .list 1 (shop.map fun n => iv n), .slice 311269 0 0]), (832, .box [.slice 313312 0 ((now.take j).flatMap moreL).length]), (3712, .arr 6 (now.map WheelA.av)), (311269, .arr 1 []), (313312, .arr 6 (((now.take j).flatMap moreL).map WheelA.av))], [], 10000000⟩ ∧ bestOf wn wd W0 (upTo W0 k ++ (now.take j).flatMap moreL) = W0) ∨ fr = ⟨[(6, .ptr 384 0 0), (9, .ptr 576 0 0), (11, .ptr 704 0 0), (13, .ptr 832 0 0), (55, iv (pairs : Int)), (56, iv (k : Int)), (58, .slice 3712 0 now.length), (59, iv (now.length : Int)), (60, iv (j : Int))], [(384, .box [iv wn, iv wd]), (576, .box [iv 0, iv 0]), (704, .box [iv t.rat, iv t.step, .list 2 (t.pairs.map PairT.av), iv t.round, .list 1 (shop.map fun n => iv n), .list 1 (nsL (bestOf wn wd W0 (upTo W0 k ++ (now.take j).flatMap moreL)).ps)]), (832, .box [.slice 313312 0 ((now.take j).flatMap moreL).length]), (3712, .arr 6 (now.map WheelA.av)), (313312, .arr 6 (((now.take j).flatMap moreL).map WheelA.av))], [], 10000000⟩))
      · simp -implicitDefEqProofs (maxSteps := 2000000) (disch := first | exact tt_rfl rfl | omega | (simp only [go_sem] <;> omega) | fail) only [go_sem, norm_eq, Ok.some]
        refine .inl ⟨by simp, by simpa using hW⟩
      rintro j fr hj hS
      by_cases hjn : j < now.length
      · obtain ⟨w, hwe⟩ : ∃ w, w = now[j] := ⟨_, rfl⟩
        have hgw : Good t shop k w := hlg k w (by rw [hwe, ← hnow]; exact List.getElem_mem hjn)
        have hwav : w.av = .agg [iv t.rat, iv t.step, .list 2 (t.pairs.map PairT.av), iv t.round, .list 1 (shop.map fun n => iv n), .list 1 (nsL w.ps)] := by
          unfold WheelA.av WheelA.cells; rw [hgw.t, hgw.s]
        have gj : (now.map WheelA.av)[j]? = some (.agg [iv t.rat, iv t.step, .list 2 (t.pairs.map PairT.av), iv t.round, .list 1 (shop.map fun n => iv n), .list 1 (nsL w.ps)]) := by
          rw [List.getElem?_map, List.getElem?_eq_getElem hjn, ← hwe, ← hwav]; rfl
        have hmore := more_ok w
        have hg := more_guess w (by rw [hgw.p]; omega) (by rw [hgw.s]; omega) []
        have hch := more_check w (by rw [hgw.p]; omega) (by rw [hgw.s]; omega)
        rw [List.nil_append] at hg
        rw [hwav] at hmore hg hch
        have hml : (moreL w).length ≤ 64 := more_len (by rw [hgw.s]; exact hl8)
        obtain ⟨nx, hnx⟩ : ∃ nx, nx = (now.take j).flatMap moreL := ⟨_, rfl⟩
        obtain ⟨seen, hsn⟩ : ∃ seen, seen = upTo W0 k ++ nx := ⟨_, rfl⟩
        have hnx1 : nx ++ moreL w = (now.take (j + 1)).flatMap moreL := by
          rw [hnx, List.take_succ_eq_append_getElem hjn, List.flatMap_append, ← hwe]; simp
        have hsn1 : seen ++ moreL w = upTo W0 k ++ (now.take (j + 1)).flatMap moreL := by
          rw [hsn, List.append_assoc, hnx1]
        have hnxl : nx.length ≤ 262144 := by
          have h1 := flat_len moreL 64 (now.take j) fun y hy => more_len (by rw [(hlg k y (by rw [← hnow]; exact List.mem_of_mem_take hy)).s]; exact hl8)
          rw [← hnx, List.length_take] at h1
          have h2 : min j now.length * 64 ≤ 4096 * 64 := Nat.mul_le_mul_right 64 (by omega)
          omega
        have hseen : ∀ b ∈ seen, ∃ m, m ≤ 2 ∧ Good t shop m b := fun b hb => by
          rw [hsn] at hb
          rcases List.mem_append.1 hb with h | h
          · obtain ⟨m, hm, hg⟩ := hug k b h
            exact ⟨m, by omega, hg⟩
          · rw [hnx] at h
            obtain ⟨y, hy, hb⟩ := List.mem_flatMap.1 h
            exact ⟨k + 1, by omega, more_good (hlg k y (by rw [← hnow]; exact List.mem_of_mem_take hy)) b hb⟩
        simp only [← hnx] at hS
        simp only [← hsn] at hS
        rcases hS with ⟨rfl, hW⟩ | rfl
        · skip
          repeat (first | apply Wp.seqA | apply Wp.skipS | apply Wp.blockS | ((first | apply Wp.regS | apply Wp.condV | apply Wp.reg | apply Wp.condW | apply fin_ret); simp -implicitDefEqProofs (maxSteps := 2000000) (disch := first | exact tt_rfl rfl | omega | (simp only [go_sem] <;> omega) | fail) only [go_sem, show (j : Int) < now.length by omega, List.length_map, gj, hmore] <;> try with_reducible rfl) | apply Wp.block | apply Wp.exitS | apply Wp.retS | apply Wp.exit | apply Wp.ret | apply Wp.skip)
          refine Wp.rangeF (fun i fr => ((fr = ⟨[(6, .ptr 384 0 0), (9, .ptr 576 0 0), (11, .ptr 704 0 0), (13, .ptr 832 0 0), (55, iv (pairs : Int)), (56, iv (k : Int)), (58, .slice 3712 0 now.length), (59, iv (now.length : Int)), (60, iv (j : Int))], [(384, .box [iv wn, iv wd]), (576, .box [iv 0, iv 0]), (704, .box [iv t.rat, iv t.step, .list 2 (t.pairs.map PairT.av), iv t.round, .list 1 (shop.map fun n => iv n), .slice 311269 0 0]), (832, .box [.slice 313312 0 (nx ++ (moreL w).take i).length]), (3712, .arr 6 (now.map WheelA.av)), (311269, .arr 1 []), (313312, .arr 6 ((nx ++ (moreL w).take i).map WheelA.av))], [], 10000000⟩ ∧ bestOf wn wd W0 (seen ++ (moreL w).take i) = W0) ∨ fr = ⟨[(6, .ptr 384 0 0), (9, .ptr 576 0 0), (11, .ptr 704 0 0), (13, .ptr 832 0 0), (55, iv (pairs : Int)), (56, iv (k : Int)), (58, .slice 3712 0 now.length), (59, iv (now.length : Int)), (60, iv (j : Int))], [(384, .box [iv wn, iv wd]), (576, .box [iv 0, iv 0]), (704, .box [iv t.rat, iv t.step, .list 2 (t.pairs.map PairT.av), iv t.round, .list 1 (shop.map fun n => iv n), .list 1 (nsL (bestOf wn wd W0 (seen ++ (moreL w).take i)).ps)]), (832, .box [.slice 313312 0 (nx ++ (moreL w).take i).length]), (3712, .arr 6 (now.map WheelA.av)), (313312, .arr 6 ((nx ++ (moreL w).take i).map WheelA.av))], [], 10000000⟩)) rfl rfl hg hch ?_ ?_ ?_
          · simp -implicitDefEqProofs (maxSteps := 2000000) (disch := first | exact tt_rfl rfl | omega | (simp only [go_sem] <;> omega) | fail) only [go_sem, norm_eq, Ok.some]
            first | exact .inl ⟨by simp, by simpa using hW⟩ | exact .inl (by simpa using hW) | trace_state
          · rintro i v fr hv hS
            have hlt : i < (moreL w).length := by
              rcases Nat.lt_or_ge i (moreL w).length with h | h
              · exact h
              · rw [List.getElem?_eq_none (by simpa [wV] using h)] at hv; cases hv
            obtain ⟨x, hxe⟩ : ∃ x, x = (moreL w)[i] := ⟨_, rfl⟩
            have hv' : v = [x.av] := by
              unfold wV at hv
              rw [List.getElem?_map, List.getElem?_eq_getElem hlt, ← hxe] at hv
              cases hv; rfl
            subst hv'
            have hgx := more_good hgw x (by rw [hxe]; exact List.getElem_mem hlt)
            rcases hS with ⟨rfl, hW⟩ | rfl
            · skip
              obtain ⟨b, hbb⟩ : ∃ b, b = bestOf wn wd W0 (seen ++ (moreL w).take i) := ⟨_, rfl⟩
              have hgb0 : ∃ m, m ≤ 2 ∧ Good t shop m b := by
                have := bestOf_mem wn wd (seen ++ (moreL w).take i) W0
                rw [← hbb] at this
                rcases List.mem_cons.1 this with h | h
                · exact ⟨0, by omega, by rw [h]; exact hlg 0 _ (by simp [lv])⟩
                · rcases List.mem_append.1 h with h | h
                  · exact hseen b h
                  · exact ⟨k + 1, by omega, more_good hgw b (List.mem_of_mem_take h)⟩
              obtain ⟨m, hm2, hgb⟩ := hgb0
              have hb0 : b = W0 := by rw [hbb]; exact hW
              have ebs : bestOf wn wd W0 (seen ++ (moreL w).take (i + 1)) = stepB wn wd b x := by
                rw [List.take_succ_eq_append_getElem hlt, ← List.append_assoc, bestOf_snoc, ← hbb, ← hxe]
              have enx : nx ++ (moreL w).take (i + 1) = (nx ++ (moreL w).take i) ++ [x] := by
                rw [List.take_succ_eq_append_getElem hlt, List.append_assoc, ← hxe]
              have fx := wheelTake_ok x hgx.i (by rw [hgx.p]; omega) (by rw [hgx.s]; omega) (good_check hs hgx (by omega))
              have fb := wheelTake_ok b hgb.i (by rw [hgb.p]; omega) (by rw [hgb.s]; omega) (good_check hs hgb (by omega))
              have rx := good_far hs hgx (by omega) hw.1 hw.2
              have rb := good_far hs hgb (by omega) hw.1 hw.2
              have gx := from_ok _ _ _ _ rx
              have gb := from_ok _ _ _ _ rb
              have hless := less_ok (awayN (nT (wheelT x)) (dT (wheelT x)) wn wd) (awayN (nT (wheelT b)) (dT (wheelT b)) wn wd) (dT (wheelT x)).toNat (dT (wheelT b)).toNat rx.away rb.away (by have := rx.d1; omega) (by have := rb.d1; omega)
              rw [show (((dT (wheelT x)).toNat : Nat) : Int) = dT (wheelT x) by have := rx.d0; omega, show (((dT (wheelT b)).toNat : Nat) : Int) = dT (wheelT b) by have := rb.d0; omega] at hless
              change lim F _ _ = some (AV.bool (nearW wn wd x b), []) at hless
              unfold takeV at fx fb
              unfold WheelA.av WheelA.cells at fx fb
              rw [hgx.t, hgx.s] at fx
              rw [hgb.t, hgb.s] at fb
              have hnl : (nx ++ (moreL w).take i).length ≤ 1000000 := by rw [List.length_append, List.length_take]; omega
              generalize hnn : nx ++ (moreL w).take i = nn at *
              have hxav : x.av = .agg [iv t.rat, iv t.step, .list 2 (t.pairs.map PairT.av), iv t.round, .list 1 (shop.map fun n => iv n), .list 1 (nsL x.ps)] := by
                unfold WheelA.av WheelA.cells; rw [hgx.t, hgx.s]
              rw [ebs, enx]
              have hnil : nsL b.ps = [] := by rw [hb0, hW0]; rfl
              rw [hnil] at fb
              cases hnear : nearW wn wd x b with
              | true =>
                rw [hnear] at hless
                have est : stepB wn wd b x = x := by unfold stepB; rw [hnear]; rfl
                rw [est]
                refine ⟨_, rfl, ?_⟩
                rw [hxav]
                repeat (first | apply Wp.seqA | apply Wp.skipS | apply Wp.blockS | ((first | apply Wp.regS | apply Wp.condV | apply Wp.reg | apply Wp.condW | apply fin_ret); simp -implicitDefEqProofs (maxSteps := 2000000) (disch := first | exact tt_rfl rfl | omega | (simp only [go_sem] <;> omega) | fail) only [go_sem, fx, fb, gx, gb, hless, List.length_map] <;> try with_reducible rfl) | apply Wp.block | apply Wp.exitS | apply Wp.retS | apply Wp.exit | apply Wp.ret | apply Wp.skip)
                apply block_norm
                apply round_next
                · simp -implicitDefEqProofs (maxSteps := 2000000) (disch := first | exact tt_rfl rfl | omega | (simp only [go_sem] <;> omega) | fail) only [go_sem, norm_eq, Ok.some]; with_reducible rfl
                refine .inr ?_
                rw [List.map_append, List.length_append]
                simp [hxav]
              | false =>
                rw [hnear] at hless
                have est : stepB wn wd b x = b := by unfold stepB; rw [hnear]; rfl
                rw [est]
                refine ⟨_, rfl, ?_⟩
                rw [hxav]
                repeat (first | apply Wp.seqA | apply Wp.skipS | apply Wp.blockS | ((first | apply Wp.regS | apply Wp.condV | apply Wp.reg | apply Wp.condW | apply fin_ret); simp -implicitDefEqProofs (maxSteps := 2000000) (disch := first | exact tt_rfl rfl | omega | (simp only [go_sem] <;> omega) | fail) only [go_sem, fx, fb, gx, gb, hless, List.length_map] <;> try with_reducible rfl) | apply Wp.block | apply Wp.exitS | apply Wp.retS | apply Wp.exit | apply Wp.ret | apply Wp.skip)
                apply block_norm
                apply round_next
                · simp -implicitDefEqProofs (maxSteps := 2000000) (disch := first | exact tt_rfl rfl | omega | (simp only [go_sem] <;> omega) | fail) only [go_sem, norm_eq, Ok.some]; with_reducible rfl
                refine .inl ⟨?_, hb0⟩
                rw [List.map_append, List.length_append]
                simp [hxav]
            · skip
              obtain ⟨b, hbb⟩ : ∃ b, b = bestOf wn wd W0 (seen ++ (moreL w).take i) := ⟨_, rfl⟩
              have hgb0 : ∃ m, m ≤ 2 ∧ Good t shop m b := by
                have := bestOf_mem wn wd (seen ++ (moreL w).take i) W0
                rw [← hbb] at this
                rcases List.mem_cons.1 this with h | h
                · exact ⟨0, by omega, by rw [h]; exact hlg 0 _ (by simp [lv])⟩
                · rcases List.mem_append.1 h with h | h
                  · exact hseen b h
                  · exact ⟨k + 1, by omega, more_good hgw b (List.mem_of_mem_take h)⟩
              obtain ⟨m, hm2, hgb⟩ := hgb0
              rw [← hbb]
              have ebs : bestOf wn wd W0 (seen ++ (moreL w).take (i + 1)) = stepB wn wd b x := by
                rw [List.take_succ_eq_append_getElem hlt, ← List.append_assoc, bestOf_snoc, ← hbb, ← hxe]
              have enx : nx ++ (moreL w).take (i + 1) = (nx ++ (moreL w).take i) ++ [x] := by
                rw [List.take_succ_eq_append_getElem hlt, List.append_assoc, ← hxe]
              have fx := wheelTake_ok x hgx.i (by rw [hgx.p]; omega) (by rw [hgx.s]; omega) (good_check hs hgx (by omega))
              have fb := wheelTake_ok b hgb.i (by rw [hgb.p]; omega) (by rw [hgb.s]; omega) (good_check hs hgb (by omega))
              have rx := good_far hs hgx (by omega) hw.1 hw.2
              have rb := good_far hs hgb (by omega) hw.1 hw.2
              have gx := from_ok _ _ _ _ rx
              have gb := from_ok _ _ _ _ rb
              have hless := less_ok (awayN (nT (wheelT x)) (dT (wheelT x)) wn wd) (awayN (nT (wheelT b)) (dT (wheelT b)) wn wd) (dT (wheelT x)).toNat (dT (wheelT b)).toNat rx.away rb.away (by have := rx.d1; omega) (by have := rb.d1; omega)
              rw [show (((dT (wheelT x)).toNat : Nat) : Int) = dT (wheelT x) by have := rx.d0; omega, show (((dT (wheelT b)).toNat : Nat) : Int) = dT (wheelT b) by have := rb.d0; omega] at hless
              change lim F _ _ = some (AV.bool (nearW wn wd x b), []) at hless
              unfold takeV at fx fb
              unfold WheelA.av WheelA.cells at fx fb
              rw [hgx.t, hgx.s] at fx
              rw [hgb.t, hgb.s] at fb
              have hnl : (nx ++ (moreL w).take i).length ≤ 1000000 := by rw [List.length_append, List.length_take]; omega
              generalize hnn : nx ++ (moreL w).take i = nn at *
              have hxav : x.av = .agg [iv t.rat, iv t.step, .list 2 (t.pairs.map PairT.av), iv t.round, .list 1 (shop.map fun n => iv n), .list 1 (nsL x.ps)] := by
                unfold WheelA.av WheelA.cells; rw [hgx.t, hgx.s]
              rw [ebs, enx]
              cases hnear : nearW wn wd x b with
              | true =>
                rw [hnear] at hless
                have est : stepB wn wd b x = x := by unfold stepB; rw [hnear]; rfl
                rw [est]
                refine ⟨_, rfl, ?_⟩
                rw [hxav]
                repeat (first | apply Wp.seqA | apply Wp.skipS | apply Wp.blockS | ((first | apply Wp.regS | apply Wp.condV | apply Wp.reg | apply Wp.condW | apply fin_ret); simp -implicitDefEqProofs (maxSteps := 2000000) (disch := first | exact tt_rfl rfl | omega | (simp only [go_sem] <;> omega) | fail) only [go_sem, fx, fb, gx, gb, hless, List.length_map] <;> try with_reducible rfl) | apply Wp.block | apply Wp.exitS | apply Wp.retS | apply Wp.exit | apply Wp.ret | apply Wp.skip)
                apply block_norm
                apply round_next
                · simp -implicitDefEqProofs (maxSteps := 2000000) (disch := first | exact tt_rfl rfl | omega | (simp only [go_sem] <;> omega) | fail) only [go_sem, norm_eq, Ok.some]; with_reducible rfl
                refine .inr ?_
                rw [List.map_append, List.length_append]
                simp [hxav]
              | false =>
                rw [hnear] at hless
                have est : stepB wn wd b x = b := by unfold stepB; rw [hnear]; rfl
                rw [est]
                refine ⟨_, rfl, ?_⟩
                rw [hxav]
                repeat (first | apply Wp.seqA | apply Wp.skipS | apply Wp.blockS | ((first | apply Wp.regS | apply Wp.condV | apply Wp.reg | apply Wp.condW | apply fin_ret); simp -implicitDefEqProofs (maxSteps := 2000000) (disch := first | exact tt_rfl rfl | omega | (simp only [go_sem] <;> omega) | fail) only [go_sem, fx, fb, gx, gb, hless, List.length_map] <;> try with_reducible rfl) | apply Wp.block | apply Wp.exitS | apply Wp.retS | apply Wp.exit | apply Wp.ret | apply Wp.skip)
                apply block_norm
                apply round_next
                · simp -implicitDefEqProofs (maxSteps := 2000000) (disch := first | exact tt_rfl rfl | omega | (simp only [go_sem] <;> omega) | fail) only [go_sem, norm_eq, Ok.some]; with_reducible rfl
                refine .inr ?_
                rw [List.map_append, List.length_append]
                simp [hxav]
          · rintro fr hS
            have hwl : (wV (moreL w)).length = (moreL w).length := by simp [wV]
            rw [hwl, List.take_length, hnx1, hsn1] at hS
            rcases hS with ⟨rfl, hW⟩ | rfl
            · apply block_norm
              repeat (first | apply Wp.seqA | apply Wp.skipS | apply Wp.blockS | ((first | apply Wp.regS | apply Wp.condV | apply Wp.reg | apply Wp.condW | apply fin_ret); simp -implicitDefEqProofs (maxSteps := 2000000) (disch := first | exact tt_rfl rfl | omega | (simp only [go_sem] <;> omega) | fail) only [go_sem] <;> try with_reducible rfl) | apply Wp.block | apply Wp.exitS | apply Wp.retS | apply Wp.exit | apply Wp.ret | apply Wp.skip)
              apply round_next
              · simp -implicitDefEqProofs (maxSteps := 2000000) (disch := first | exact tt_rfl rfl | omega | (simp only [go_sem] <;> omega) | fail) only [go_sem, norm_eq, Ok.some]; with_reducible rfl
              exact ⟨hjn, .inl ⟨by simp, hW⟩⟩
            · apply block_norm
              repeat (first | apply Wp.seqA | apply Wp.skipS | apply Wp.blockS | ((first | apply Wp.regS | apply Wp.condV | apply Wp.reg | apply Wp.condW | apply fin_ret); simp -implicitDefEqProofs (maxSteps := 2000000) (disch := first | exact tt_rfl rfl | omega | (simp only [go_sem] <;> omega) | fail) only [go_sem] <;> try with_reducible rfl) | apply Wp.block | apply Wp.exitS | apply Wp.retS | apply Wp.exit | apply Wp.ret | apply Wp.skip)
              apply round_next
              · simp -implicitDefEqProofs (maxSteps := 2000000) (disch := first | exact tt_rfl rfl | omega | (simp only [go_sem] <;> omega) | fail) only [go_sem, norm_eq, Ok.some]; with_reducible rfl
              exact ⟨hjn, .inr (by simp)⟩
        · skip
          repeat (first | apply Wp.seqA | apply Wp.skipS | apply Wp.blockS | ((first | apply Wp.regS | apply Wp.condV | apply Wp.reg | apply Wp.condW | apply fin_ret); simp -implicitDefEqProofs (maxSteps := 2000000) (disch := first | exact tt_rfl rfl | omega | (simp only [go_sem] <;> omega) | fail) only [go_sem, show (j : Int) < now.length by omega, List.length_map, gj, hmore] <;> try with_reducible rfl) | apply Wp.block | apply Wp.exitS | apply Wp.retS | apply Wp.exit | apply Wp.ret | apply Wp.skip)
          refine Wp.rangeF (fun i fr => ((fr = ⟨[(6, .ptr 384 0 0), (9, .ptr 576 0 0), (11, .ptr 704 0 0), (13, .ptr 832 0 0), (55, iv (pairs : Int)), (56, iv (k : Int)), (58, .slice 3712 0 now.length), (59, iv (now.length : Int)), (60, iv (j : Int))], [(384, .box [iv wn, iv wd]), (576, .box [iv 0, iv 0]), (704, .box [iv t.rat, iv t.step, .list 2 (t.pairs.map PairT.av), iv t.round, .list 1 (shop.map fun n => iv n), .slice 311269 0 0]), (832, .box [.slice 313312 0 (nx ++ (moreL w).take i).length]), (3712, .arr 6 (now.map WheelA.av)), (311269, .arr 1 []), (313312, .arr 6 ((nx ++ (moreL w).take i).map WheelA.av))], [], 10000000⟩ ∧ bestOf wn wd W0 (seen ++ (moreL w).take i) = W0) ∨ fr = ⟨[(6, .ptr 384 0 0), (9, .ptr 576 0 0), (11, .ptr 704 0 0), (13, .ptr 832 0 0), (55, iv (pairs : Int)), (56, iv (k : Int)), (58, .slice 3712 0 now.length), (59, iv (now.length : Int)), (60, iv (j : Int))], [(384, .box [iv wn, iv wd]), (576, .box [iv 0, iv 0]), (704, .box [iv t.rat, iv t.step, .list 2 (t.pairs.map PairT.av), iv t.round, .list 1 (shop.map fun n => iv n), .list 1 (nsL (bestOf wn wd W0 (seen ++ (moreL w).take i)).ps)]), (832, .box [.slice 313312 0 (nx ++ (moreL w).take i).length]), (3712, .arr 6 (now.map WheelA.av)), (313312, .arr 6 ((nx ++ (moreL w).take i).map WheelA.av))], [], 10000000⟩)) rfl rfl hg hch ?_ ?_ ?_
          · simp -implicitDefEqProofs (maxSteps := 2000000) (disch := first | exact tt_rfl rfl | omega | (simp only [go_sem] <;> omega) | fail) only [go_sem, norm_eq, Ok.some]
            first | exact .inr (by simp) | trace_state
          · rintro i v fr hv hS
            have hlt : i < (moreL w).length := by
              rcases Nat.lt_or_ge i (moreL w).length with h | h
              · exact h
              · rw [List.getElem?_eq_none (by simpa [wV] using h)] at hv; cases hv
            obtain ⟨x, hxe⟩ : ∃ x, x = (moreL w)[i] := ⟨_, rfl⟩
            have hv' : v = [x.av] := by
              unfold wV at hv
              rw [List.getElem?_map, List.getElem?_eq_getElem hlt, ← hxe] at hv
              cases hv; rfl
            subst hv'
            have hgx := more_good hgw x (by rw [hxe]; exact List.getElem_mem hlt)
            rcases hS with ⟨rfl, hW⟩ | rfl
            · skip
              obtain ⟨b, hbb⟩ : ∃ b, b = bestOf wn wd W0 (seen ++ (moreL w).take i) := ⟨_, rfl⟩
              have hgb0 : ∃ m, m ≤ 2 ∧ Good t shop m b := by
                have := bestOf_mem wn wd (seen ++ (moreL w).take i) W0
                rw [← hbb] at this
                rcases List.mem_cons.1 this with h | h
                · exact ⟨0, by omega, by rw [h]; exact hlg 0 _ (by simp [lv])⟩
                · rcases List.mem_append.1 h with h | h
                  · exact hseen b h
                  · exact ⟨k + 1, by omega, more_good hgw b (List.mem_of_mem_take h)⟩
              obtain ⟨m, hm2, hgb⟩ := hgb0
              have hb0 : b = W0 := by rw [hbb]; exact hW
              have ebs : bestOf wn wd W0 (seen ++ (moreL w).take (i + 1)) = stepB wn wd b x := by
                rw [List.take_succ_eq_append_getElem hlt, ← List.append_assoc, bestOf_snoc, ← hbb, ← hxe]
              have enx : nx ++ (moreL w).take (i + 1) = (nx ++ (moreL w).take i) ++ [x] := by
                rw [List.take_succ_eq_append_getElem hlt, List.append_assoc, ← hxe]
              have fx := wheelTake_ok x hgx.i (by rw [hgx.p]; omega) (by rw [hgx.s]; omega) (good_check hs hgx (by omega))
              have fb := wheelTake_ok b hgb.i (by rw [hgb.p]; omega) (by rw [hgb.s]; omega) (good_check hs hgb (by omega))
              have rx := good_far hs hgx (by omega) hw.1 hw.2
              have rb := good_far hs hgb (by omega) hw.1 hw.2
              have gx := from_ok _ _ _ _ rx
              have gb := from_ok _ _ _ _ rb
              have hless := less_ok (awayN (nT (wheelT x)) (dT (wheelT x)) wn wd) (awayN (nT (wheelT b)) (dT (wheelT b)) wn wd) (dT (wheelT x)).toNat (dT (wheelT b)).toNat rx.away rb.away (by have := rx.d1; omega) (by have := rb.d1; omega)
              rw [show (((dT (wheelT x)).toNat : Nat) : Int) = dT (wheelT x) by have := rx.d0; omega, show (((dT (wheelT b)).toNat : Nat) : Int) = dT (wheelT b) by have := rb.d0; omega] at hless
              change lim F _ _ = some (AV.bool (nearW wn wd x b), []) at hless
              unfold takeV at fx fb
              unfold WheelA.av WheelA.cells at fx fb
              rw [hgx.t, hgx.s] at fx
              rw [hgb.t, hgb.s] at fb
              have hnl : (nx ++ (moreL w).take i).length ≤ 1000000 := by rw [List.length_append, List.length_take]; omega
              generalize hnn : nx ++ (moreL w).take i = nn at *
              have hxav : x.av = .agg [iv t.rat, iv t.step, .list 2 (t.pairs.map PairT.av), iv t.round, .list 1 (shop.map fun n => iv n), .list 1 (nsL x.ps)] := by
                unfold WheelA.av WheelA.cells; rw [hgx.t, hgx.s]
              rw [ebs, enx]
              have hnil : nsL b.ps = [] := by rw [hb0, hW0]; rfl
              rw [hnil] at fb
              cases hnear : nearW wn wd x b with
              | true =>
                rw [hnear] at hless
                have est : stepB wn wd b x = x := by unfold stepB; rw [hnear]; rfl
                rw [est]
                refine ⟨_, rfl, ?_⟩
                rw [hxav]
                repeat (first | apply Wp.seqA | apply Wp.skipS | apply Wp.blockS | ((first | apply Wp.regS | apply Wp.condV | apply Wp.reg | apply Wp.condW | apply fin_ret); simp -implicitDefEqProofs (maxSteps := 2000000) (disch := first | exact tt_rfl rfl | omega | (simp only [go_sem] <;> omega) | fail) only [go_sem, fx, fb, gx, gb, hless, List.length_map] <;> try with_reducible rfl) | apply Wp.block | apply Wp.exitS | apply Wp.retS | apply Wp.exit | apply Wp.ret | apply Wp.skip)
                apply block_norm
                apply round_next
                · simp -implicitDefEqProofs (maxSteps := 2000000) (disch := first | exact tt_rfl rfl | omega | (simp only [go_sem] <;> omega) | fail) only [go_sem, norm_eq, Ok.some]; with_reducible rfl
                refine .inr ?_
                rw [List.map_append, List.length_append]
                simp [hxav]
              | false =>
                rw [hnear] at hless
                have est : stepB wn wd b x = b := by unfold stepB; rw [hnear]; rfl
                rw [est]
                refine ⟨_, rfl, ?_⟩
                rw [hxav]
                repeat (first | apply Wp.seqA | apply Wp.skipS | apply Wp.blockS | ((first | apply Wp.regS | apply Wp.condV | apply Wp.reg | apply Wp.condW | apply fin_ret); simp -implicitDefEqProofs (maxSteps := 2000000) (disch := first | exact tt_rfl rfl | omega | (simp only [go_sem] <;> omega) | fail) only [go_sem, fx, fb, gx, gb, hless, List.length_map] <;> try with_reducible rfl) | apply Wp.block | apply Wp.exitS | apply Wp.retS | apply Wp.exit | apply Wp.ret | apply Wp.skip)
                apply block_norm
                apply round_next
                · simp -implicitDefEqProofs (maxSteps := 2000000) (disch := first | exact tt_rfl rfl | omega | (simp only [go_sem] <;> omega) | fail) only [go_sem, norm_eq, Ok.some]; with_reducible rfl
                refine .inl ⟨?_, hb0⟩
                rw [List.map_append, List.length_append]
                simp [hxav]
            · skip
              obtain ⟨b, hbb⟩ : ∃ b, b = bestOf wn wd W0 (seen ++ (moreL w).take i) := ⟨_, rfl⟩
              have hgb0 : ∃ m, m ≤ 2 ∧ Good t shop m b := by
                have := bestOf_mem wn wd (seen ++ (moreL w).take i) W0
                rw [← hbb] at this
                rcases List.mem_cons.1 this with h | h
                · exact ⟨0, by omega, by rw [h]; exact hlg 0 _ (by simp [lv])⟩
                · rcases List.mem_append.1 h with h | h
                  · exact hseen b h
                  · exact ⟨k + 1, by omega, more_good hgw b (List.mem_of_mem_take h)⟩
              obtain ⟨m, hm2, hgb⟩ := hgb0
              rw [← hbb]
              have ebs : bestOf wn wd W0 (seen ++ (moreL w).take (i + 1)) = stepB wn wd b x := by
                rw [List.take_succ_eq_append_getElem hlt, ← List.append_assoc, bestOf_snoc, ← hbb, ← hxe]
              have enx : nx ++ (moreL w).take (i + 1) = (nx ++ (moreL w).take i) ++ [x] := by
                rw [List.take_succ_eq_append_getElem hlt, List.append_assoc, ← hxe]
              have fx := wheelTake_ok x hgx.i (by rw [hgx.p]; omega) (by rw [hgx.s]; omega) (good_check hs hgx (by omega))
              have fb := wheelTake_ok b hgb.i (by rw [hgb.p]; omega) (by rw [hgb.s]; omega) (good_check hs hgb (by omega))
              have rx := good_far hs hgx (by omega) hw.1 hw.2
              have rb := good_far hs hgb (by omega) hw.1 hw.2
              have gx := from_ok _ _ _ _ rx
              have gb := from_ok _ _ _ _ rb
              have hless := less_ok (awayN (nT (wheelT x)) (dT (wheelT x)) wn wd) (awayN (nT (wheelT b)) (dT (wheelT b)) wn wd) (dT (wheelT x)).toNat (dT (wheelT b)).toNat rx.away rb.away (by have := rx.d1; omega) (by have := rb.d1; omega)
              rw [show (((dT (wheelT x)).toNat : Nat) : Int) = dT (wheelT x) by have := rx.d0; omega, show (((dT (wheelT b)).toNat : Nat) : Int) = dT (wheelT b) by have := rb.d0; omega] at hless
              change lim F _ _ = some (AV.bool (nearW wn wd x b), []) at hless
              unfold takeV at fx fb
              unfold WheelA.av WheelA.cells at fx fb
              rw [hgx.t, hgx.s] at fx
              rw [hgb.t, hgb.s] at fb
              have hnl : (nx ++ (moreL w).take i).length ≤ 1000000 := by rw [List.length_append, List.length_take]; omega
              generalize hnn : nx ++ (moreL w).take i = nn at *
              have hxav : x.av = .agg [iv t.rat, iv t.step, .list 2 (t.pairs.map PairT.av), iv t.round, .list 1 (shop.map fun n => iv n), .list 1 (nsL x.ps)] := by
                unfold WheelA.av WheelA.cells; rw [hgx.t, hgx.s]
              rw [ebs, enx]
              cases hnear : nearW wn wd x b with
              | true =>
                rw [hnear] at hless
                have est : stepB wn wd b x = x := by unfold stepB; rw [hnear]; rfl
                rw [est]
                refine ⟨_, rfl, ?_⟩
                rw [hxav]
                repeat (first | apply Wp.seqA | apply Wp.skipS | apply Wp.blockS | ((first | apply Wp.regS | apply Wp.condV | apply Wp.reg | apply Wp.condW | apply fin_ret); simp -implicitDefEqProofs (maxSteps := 2000000) (disch := first | exact tt_rfl rfl | omega | (simp only [go_sem] <;> omega) | fail) only [go_sem, fx, fb, gx, gb, hless, List.length_map] <;> try with_reducible rfl) | apply Wp.block | apply Wp.exitS | apply Wp.retS | apply Wp.exit | apply Wp.ret | apply Wp.skip)
                apply block_norm
                apply round_next
                · simp -implicitDefEqProofs (maxSteps := 2000000) (disch := first | exact tt_rfl rfl | omega | (simp only [go_sem] <;> omega) | fail) only [go_sem, norm_eq, Ok.some]; with_reducible rfl
                refine .inr ?_
                rw [List.map_append, List.length_append]
                simp [hxav]
              | false =>
                rw [hnear] at hless
                have est : stepB wn wd b x = b := by unfold stepB; rw [hnear]; rfl
                rw [est]
                refine ⟨_, rfl, ?_⟩
                rw [hxav]
                repeat (first | apply Wp.seqA | apply Wp.skipS | apply Wp.blockS | ((first | apply Wp.regS | apply Wp.condV | apply Wp.reg | apply Wp.condW | apply fin_ret); simp -implicitDefEqProofs (maxSteps := 2000000) (disch := first | exact tt_rfl rfl | omega | (simp only [go_sem] <;> omega) | fail) only [go_sem, fx, fb, gx, gb, hless, List.length_map] <;> try with_reducible rfl) | apply Wp.block | apply Wp.exitS | apply Wp.retS | apply Wp.exit | apply Wp.ret | apply Wp.skip)
                apply block_norm
                apply round_next
                · simp -implicitDefEqProofs (maxSteps := 2000000) (disch := first | exact tt_rfl rfl | omega | (simp only [go_sem] <;> omega) | fail) only [go_sem, norm_eq, Ok.some]; with_reducible rfl
                refine .inr ?_
                rw [List.map_append, List.length_append]
                simp [hxav]
          · rintro fr hS
            have hwl : (wV (moreL w)).length = (moreL w).length := by simp [wV]
            rw [hwl, List.take_length, hnx1, hsn1] at hS
            rcases hS with ⟨rfl, hW⟩ | rfl
            · apply block_norm
              repeat (first | apply Wp.seqA | apply Wp.skipS | apply Wp.blockS | ((first | apply Wp.regS | apply Wp.condV | apply Wp.reg | apply Wp.condW | apply fin_ret); simp -implicitDefEqProofs (maxSteps := 2000000) (disch := first | exact tt_rfl rfl | omega | (simp only [go_sem] <;> omega) | fail) only [go_sem] <;> try with_reducible rfl) | apply Wp.block | apply Wp.exitS | apply Wp.retS | apply Wp.exit | apply Wp.ret | apply Wp.skip)
              apply round_next
              · simp -implicitDefEqProofs (maxSteps := 2000000) (disch := first | exact tt_rfl rfl | omega | (simp only [go_sem] <;> omega) | fail) only [go_sem, norm_eq, Ok.some]; with_reducible rfl
              exact ⟨hjn, .inl ⟨by simp, hW⟩⟩
            · apply block_norm
              repeat (first | apply Wp.seqA | apply Wp.skipS | apply Wp.blockS | ((first | apply Wp.regS | apply Wp.condV | apply Wp.reg | apply Wp.condW | apply fin_ret); simp -implicitDefEqProofs (maxSteps := 2000000) (disch := first | exact tt_rfl rfl | omega | (simp only [go_sem] <;> omega) | fail) only [go_sem] <;> try with_reducible rfl) | apply Wp.block | apply Wp.exitS | apply Wp.retS | apply Wp.exit | apply Wp.ret | apply Wp.skip)
              apply round_next
              · simp -implicitDefEqProofs (maxSteps := 2000000) (disch := first | exact tt_rfl rfl | omega | (simp only [go_sem] <;> omega) | fail) only [go_sem, norm_eq, Ok.some]; with_reducible rfl
              exact ⟨hjn, .inr (by simp)⟩
      · obtain rfl : j = now.length := by omega
        rw [List.take_length] at hS
        have en : lv W0 (k + 1) = now.flatMap moreL := by rw [hnow]; rfl
        have eu : upTo W0 (k + 1) = upTo W0 k ++ now.flatMap moreL := by rw [← en]; rfl
        rw [en, eu]
        have hnl : (now.flatMap moreL).length ≤ 262144 := by
          have h1 := flat_len moreL 64 now fun y hy => more_len (by rw [(hlg k y (by rw [← hnow]; exact hy)).s]; exact hl8)
          have h2 : now.length * 64 ≤ 4096 * 64 := Nat.mul_le_mul_right 64 hlvl
          omega
        rcases hS with ⟨rfl, hW⟩ | rfl
        · repeat (first | apply Wp.seqA | apply Wp.skipS | apply Wp.blockS | ((first | apply Wp.regS | apply Wp.condV | apply Wp.reg | apply Wp.condW | apply fin_ret); simp -implicitDefEqProofs (maxSteps := 2000000) (disch := first | exact tt_rfl rfl | omega | (simp only [go_sem] <;> omega) | fail) only [go_sem, Int.lt_irrefl] <;> try with_reducible rfl) | apply Wp.block | apply Wp.exitS | apply Wp.retS | apply Wp.exit | apply Wp.ret | apply Wp.skip)
          apply round_next
          · simp -implicitDefEqProofs (maxSteps := 2000000) (disch := first | exact tt_rfl rfl | omega | (simp only [go_sem] <;> omega) | fail) only [go_sem, norm_eq, Ok.some]; with_reducible rfl
          exact ⟨hkp, .inl ⟨by simp, hW⟩⟩
        · repeat (first | apply Wp.seqA | apply Wp.skipS | apply Wp.blockS | ((first | apply Wp.regS | apply Wp.condV | apply Wp.reg | apply Wp.condW | apply fin_ret); simp -implicitDefEqProofs (maxSteps := 2000000) (disch := first | exact tt_rfl rfl | omega | (simp only [go_sem] <;> omega) | fail) only [go_sem, Int.lt_irrefl] <;> try with_reducible rfl) | apply Wp.block | apply Wp.exitS | apply Wp.retS | apply Wp.exit | apply Wp.ret | apply Wp.skip)
          apply round_next
          · simp -implicitDefEqProofs (maxSteps := 2000000) (disch := first | exact tt_rfl rfl | omega | (simp only [go_sem] <;> omega) | fail) only [go_sem, norm_eq, Ok.some]; with_reducible rfl
          exact ⟨hkp, .inr (by simp)⟩
    · repeat (first | apply Wp.seqA | apply Wp.skipS | apply Wp.blockS | ((first | apply Wp.regS | apply Wp.condV | apply Wp.reg | apply Wp.condW | apply fin_ret); simp -implicitDefEqProofs (maxSteps := 2000000) (disch := first | exact tt_rfl rfl | omega | (simp only [go_sem] <;> omega) | fail) only [go_sem, show (k : Int) < pairs by omega] <;> try with_reducible rfl) | apply Wp.block | apply Wp.exitS | apply Wp.retS | apply Wp.exit | apply Wp.ret | apply Wp.skip)
      obtain ⟨now, hnow⟩ : ∃ now, now = lv W0 k := ⟨_, rfl⟩
      rw [← hnow] at hlvl ⊢
      apply Wp.loopN now.length (fun j fr => ((fr = ⟨[(6, .ptr 384 0 0), (9, .ptr 576 0 0), (11, .ptr 704 0 0), (13, .ptr 832 0 0), (55, iv (pairs : Int)), (56, iv (k : Int)), (58, .slice 3712 0 now.length), (59, iv (now.length : Int)), (60, iv (j : Int))], [(384, .box [iv wn, iv wd]), (576, .box [iv 0, iv 0]), (704, .box [iv t.rat, iv t.step, .list 2 (t.pairs.map PairT.av), iv t.round, .list 1 (shop.map fun n => iv n), .slice 311269 0 0]), (832, .box [.slice 313312 0 ((now.take j).flatMap moreL).length]), (3712, .arr 6 (now.map WheelA.av)), (311269, .arr 1 []), (313312, .arr 6 (((now.take j).flatMap moreL).map WheelA.av))], [], 10000000⟩ ∧ bestOf wn wd W0 (upTo W0 k ++ (now.take j).flatMap moreL) = W0) ∨ fr = ⟨[(6, .ptr 384 0 0), (9, .ptr 576 0 0), (11, .ptr 704 0 0), (13, .ptr 832 0 0), (55, iv (pairs : Int)), (56, iv (k : Int)), (58, .slice 3712 0 now.length), (59, iv (now.length : Int)), (60, iv (j : Int))], [(384, .box [iv wn, iv wd]), (576, .box [iv 0, iv 0]), (704, .box [iv t.rat, iv t.step, .list 2 (t.pairs.map PairT.av), iv t.round, .list 1 (shop.map fun n => iv n), .list 1 (nsL (bestOf wn wd W0 (upTo W0 k ++ (now.take j).flatMap moreL)).ps)]), (832, .box [.slice 313312 0 ((now.take j).flatMap moreL).length]), (3712, .arr 6 (now.map WheelA.av)), (313312, .arr 6 (((now.take j).flatMap moreL).map WheelA.av))], [], 10000000⟩))
      · simp -implicitDefEqProofs (maxSteps := 2000000) (disch := first | exact tt_rfl rfl | omega | (simp only [go_sem] <;> omega) | fail) only [go_sem, norm_eq, Ok.some]
        refine .inr (by simp)
      rintro j fr hj hS
      by_cases hjn : j < now.length
      · obtain ⟨w, hwe⟩ : ∃ w, w = now[j] := ⟨_, rfl⟩
        have hgw : Good t shop k w := hlg k w (by rw [hwe, ← hnow]; exact List.getElem_mem hjn)
        have hwav : w.av = .agg [iv t.rat, iv t.step, .list 2 (t.pairs.map PairT.av), iv t.round, .list 1 (shop.map fun n => iv n), .list 1 (nsL w.ps)] := by
          unfold WheelA.av WheelA.cells; rw [hgw.t, hgw.s]
        have gj : (now.map WheelA.av)[j]? = some (.agg [iv t.rat, iv t.step, .list 2 (t.pairs.map PairT.av), iv t.round, .list 1 (shop.map fun n => iv n), .list 1 (nsL w.ps)]) := by
          rw [List.getElem?_map, List.getElem?_eq_getElem hjn, ← hwe, ← hwav]; rfl
        have hmore := more_ok w
        have hg := more_guess w (by rw [hgw.p]; omega) (by rw [hgw.s]; omega) []
        have hch := more_check w (by rw [hgw.p]; omega) (by rw [hgw.s]; omega)
        rw [List.nil_append] at hg
        rw [hwav] at hmore hg hch
        have hml : (moreL w).length ≤ 64 := more_len (by rw [hgw.s]; exact hl8)
        obtain ⟨nx, hnx⟩ : ∃ nx, nx = (now.take j).flatMap moreL := ⟨_, rfl⟩
        obtain ⟨seen, hsn⟩ : ∃ seen, seen = upTo W0 k ++ nx := ⟨_, rfl⟩
        have hnx1 : nx ++ moreL w = (now.take (j + 1)).flatMap moreL := by
          rw [hnx, List.take_succ_eq_append_getElem hjn, List.flatMap_append, ← hwe]; simp
        have hsn1 : seen ++ moreL w = upTo W0 k ++ (now.take (j + 1)).flatMap moreL := by
          rw [hsn, List.append_assoc, hnx1]
        have hnxl : nx.length ≤ 262144 := by
          have h1 := flat_len moreL 64 (now.take j) fun y hy => more_len (by rw [(hlg k y (by rw [← hnow]; exact List.mem_of_mem_take hy)).s]; exact hl8)
          rw [← hnx, List.length_take] at h1
          have h2 : min j now.length * 64 ≤ 4096 * 64 := Nat.mul_le_mul_right 64 (by omega)
          omega
        have hseen : ∀ b ∈ seen, ∃ m, m ≤ 2 ∧ Good t shop m b := fun b hb => by
          rw [hsn] at hb
          rcases List.mem_append.1 hb with h | h
          · obtain ⟨m, hm, hg⟩ := hug k b h
            exact ⟨m, by omega, hg⟩
          · rw [hnx] at h
            obtain ⟨y, hy, hb⟩ := List.mem_flatMap.1 h
            exact ⟨k + 1, by omega, more_good (hlg k y (by rw [← hnow]; exact List.mem_of_mem_take hy)) b hb⟩
        simp only [← hnx] at hS
        simp only [← hsn] at hS
        rcases hS with ⟨rfl, hW⟩ | rfl
        · skip
          repeat (first | apply Wp.seqA | apply Wp.skipS | apply Wp.blockS | ((first | apply Wp.regS | apply Wp.condV | apply Wp.reg | apply Wp.condW | apply fin_ret); simp -implicitDefEqProofs (maxSteps := 2000000) (disch := first | exact tt_rfl rfl | omega | (simp only [go_sem] <;> omega) | fail) only [go_sem, show (j : Int) < now.length by omega, List.length_map, gj, hmore] <;> try with_reducible rfl) | apply Wp.block | apply Wp.exitS | apply Wp.retS | apply Wp.exit | apply Wp.ret | apply Wp.skip)
          refine Wp.rangeF (fun i fr => ((fr = ⟨[(6, .ptr 384 0 0), (9, .ptr 576 0 0), (11, .ptr 704 0 0), (13, .ptr 832 0 0), (55, iv (pairs : Int)), (56, iv (k : Int)), (58, .slice 3712 0 now.length), (59, iv (now.length : Int)), (60, iv (j : Int))], [(384, .box [iv wn, iv wd]), (576, .box [iv 0, iv 0]), (704, .box [iv t.rat, iv t.step, .list 2 (t.pairs.map PairT.av), iv t.round, .list 1 (shop.map fun n => iv n), .slice 311269 0 0]), (832, .box [.slice 313312 0 (nx ++ (moreL w).take i).length]), (3712, .arr 6 (now.map WheelA.av)), (311269, .arr 1 []), (313312, .arr 6 ((nx ++ (moreL w).take i).map WheelA.av))], [], 10000000⟩ ∧ bestOf wn wd W0 (seen ++ (moreL w).take i) = W0) ∨ fr = ⟨[(6, .ptr 384 0 0), (9, .ptr 576 0 0), (11, .ptr 704 0 0), (13, .ptr 832 0 0), (55, iv (pairs : Int)), (56, iv (k : Int)), (58, .slice 3712 0 now.length), (59, iv (now.length : Int)), (60, iv (j : Int))], [(384, .box [iv wn, iv wd]), (576, .box [iv 0, iv 0]), (704, .box [iv t.rat, iv t.step, .list 2 (t.pairs.map PairT.av), iv t.round, .list 1 (shop.map fun n => iv n), .list 1 (nsL (bestOf wn wd W0 (seen ++ (moreL w).take i)).ps)]), (832, .box [.slice 313312 0 (nx ++ (moreL w).take i).length]), (3712, .arr 6 (now.map WheelA.av)), (313312, .arr 6 ((nx ++ (moreL w).take i).map WheelA.av))], [], 10000000⟩)) rfl rfl hg hch ?_ ?_ ?_
          · simp -implicitDefEqProofs (maxSteps := 2000000) (disch := first | exact tt_rfl rfl | omega | (simp only [go_sem] <;> omega) | fail) only [go_sem, norm_eq, Ok.some]
            first | exact .inl ⟨by simp, by simpa using hW⟩ | exact .inl (by simpa using hW) | trace_state
          · rintro i v fr hv hS
            have hlt : i < (moreL w).length := by
              rcases Nat.lt_or_ge i (moreL w).length with h | h
              · exact h
              · rw [List.getElem?_eq_none (by simpa [wV] using h)] at hv; cases hv
            obtain ⟨x, hxe⟩ : ∃ x, x = (moreL w)[i] := ⟨_, rfl⟩
            have hv' : v = [x.av] := by
              unfold wV at hv
              rw [List.getElem?_map, List.getElem?_eq_getElem hlt, ← hxe] at hv
              cases hv; rfl
            subst hv'
            have hgx := more_good hgw x (by rw [hxe]; exact List.getElem_mem hlt)
            rcases hS with ⟨rfl, hW⟩ | rfl
            · skip
              obtain ⟨b, hbb⟩ : ∃ b, b = bestOf wn wd W0 (seen ++ (moreL w).take i) := ⟨_, rfl⟩
              have hgb0 : ∃ m, m ≤ 2 ∧ Good t shop m b := by
                have := bestOf_mem wn wd (seen ++ (moreL w).take i) W0
                rw [← hbb] at this
                rcases List.mem_cons.1 this with h | h
                · exact ⟨0, by omega, by rw [h]; exact hlg 0 _ (by simp [lv])⟩
                · rcases List.mem_append.1 h with h | h
                  · exact hseen b h
                  · exact ⟨k + 1, by omega, more_good hgw b (List.mem_of_mem_take h)⟩
              obtain ⟨m, hm2, hgb⟩ := hgb0
              have hb0 : b = W0 := by rw [hbb]; exact hW
              have ebs : bestOf wn wd W0 (seen ++ (moreL w).take (i + 1)) = stepB wn wd b x := by
                rw [List.take_succ_eq_append_getElem hlt, ← List.append_assoc, bestOf_snoc, ← hbb, ← hxe]
              have enx : nx ++ (moreL w).take (i + 1) = (nx ++ (moreL w).take i) ++ [x] := by
                rw [List.take_succ_eq_append_getElem hlt, List.append_assoc, ← hxe]
              have fx := wheelTake_ok x hgx.i (by rw [hgx.p]; omega) (by rw [hgx.s]; omega) (good_check hs hgx (by omega))
              have fb := wheelTake_ok b hgb.i (by rw [hgb.p]; omega) (by rw [hgb.s]; omega) (good_check hs hgb (by omega))
              have rx := good_far hs hgx (by omega) hw.1 hw.2
              have rb := good_far hs hgb (by omega) hw.1 hw.2
              have gx := from_ok _ _ _ _ rx
              have gb := from_ok _ _ _ _ rb
              have hless := less_ok (awayN (nT (wheelT x)) (dT (wheelT x)) wn wd) (awayN (nT (wheelT b)) (dT (wheelT b)) wn wd) (dT (wheelT x)).toNat (dT (wheelT b)).toNat rx.away rb.away (by have := rx.d1; omega) (by have := rb.d1; omega)
              rw [show (((dT (wheelT x)).toNat : Nat) : Int) = dT (wheelT x) by have := rx.d0; omega, show (((dT (wheelT b)).toNat : Nat) : Int) = dT (wheelT b) by have := rb.d0; omega] at hless
              change lim F _ _ = some (AV.bool (nearW wn wd x b), []) at hless
              unfold takeV at fx fb
              unfold WheelA.av WheelA.cells at fx fb
              rw [hgx.t, hgx.s] at fx
              rw [hgb.t, hgb.s] at fb
              have hnl : (nx ++ (moreL w).take i).length ≤ 1000000 := by rw [List.length_append, List.length_take]; omega
              generalize hnn : nx ++ (moreL w).take i = nn at *
              have hxav : x.av = .agg [iv t.rat, iv t.step, .list 2 (t.pairs.map PairT.av), iv t.round, .list 1 (shop.map fun n => iv n), .list 1 (nsL x.ps)] := by
                unfold WheelA.av WheelA.cells; rw [hgx.t, hgx.s]
              rw [ebs, enx]
              have hnil : nsL b.ps = [] := by rw [hb0, hW0]; rfl
              rw [hnil] at fb
              cases hnear : nearW wn wd x b with
              | true =>
                rw [hnear] at hless
                have est : stepB wn wd b x = x := by unfold stepB; rw [hnear]; rfl
                rw [est]
                refine ⟨_, rfl, ?_⟩
                rw [hxav]
                repeat (first | apply Wp.seqA | apply Wp.skipS | apply Wp.blockS | ((first | apply Wp.regS | apply Wp.condV | apply Wp.reg | apply Wp.condW | apply fin_ret); simp -implicitDefEqProofs (maxSteps := 2000000) (disch := first | exact tt_rfl rfl | omega | (simp only [go_sem] <;> omega) | fail) only [go_sem, fx, fb, gx, gb, hless, List.length_map] <;> try with_reducible rfl) | apply Wp.block | apply Wp.exitS | apply Wp.retS | apply Wp.exit | apply Wp.ret | apply Wp.skip)
                apply block_norm
                apply round_next
                · simp -implicitDefEqProofs (maxSteps := 2000000) (disch := first | exact tt_rfl rfl | omega | (simp only [go_sem] <;> omega) | fail) only [go_sem, norm_eq, Ok.some]; with_reducible rfl
                refine .inr ?_
                rw [List.map_append, List.length_append]
                simp [hxav]
              | false =>
                rw [hnear] at hless
                have est : stepB wn wd b x = b := by unfold stepB; rw [hnear]; rfl
                rw [est]
                refine ⟨_, rfl, ?_⟩
                rw [hxav]
                repeat (first | apply Wp.seqA | apply Wp.skipS | apply Wp.blockS | ((first | apply Wp.regS | apply Wp.condV | apply Wp.reg | apply Wp.condW | apply fin_ret); simp -implicitDefEqProofs (maxSteps := 2000000) (disch := first | exact tt_rfl rfl | omega | (simp only [go_sem] <;> omega) | fail) only [go_sem, fx, fb, gx, gb, hless, List.length_map] <;> try with_reducible rfl) | apply Wp.block | apply Wp.exitS | apply Wp.retS | apply Wp.exit | apply Wp.ret | apply Wp.skip)
                apply block_norm
                apply round_next
                · simp -implicitDefEqProofs (maxSteps := 2000000) (disch := first | exact tt_rfl rfl | omega | (simp only [go_sem] <;> omega) | fail) only [go_sem, norm_eq, Ok.some]; with_reducible rfl
                refine .inl ⟨?_, hb0⟩
                rw [List.map_append, List.length_append]
                simp [hxav]
            · skip
              obtain ⟨b, hbb⟩ : ∃ b, b = bestOf wn wd W0 (seen ++ (moreL w).take i) := ⟨_, rfl⟩
              have hgb0 : ∃ m, m ≤ 2 ∧ Good t shop m b := by
                have := bestOf_mem wn wd (seen ++ (moreL w).take i) W0
                rw [← hbb] at this
                rcases List.mem_cons.1 this with h | h
                · exact ⟨0, by omega, by rw [h]; exact hlg 0 _ (by simp [lv])⟩
                · rcases List.mem_append.1 h with h | h
                  · exact hseen b h
                  · exact ⟨k + 1, by omega, more_good hgw b (List.mem_of_mem_take h)⟩
              obtain ⟨m, hm2, hgb⟩ := hgb0
              rw [← hbb]
              have ebs : bestOf wn wd W0 (seen ++ (moreL w).take (i + 1)) = stepB wn wd b x := by
                rw [List.take_succ_eq_append_getElem hlt, ← List.append_assoc, bestOf_snoc, ← hbb, ← hxe]
              have enx : nx ++ (moreL w).take (i + 1) = (nx ++ (moreL w).take i) ++ [x] := by
                rw [List.take_succ_eq_append_getElem hlt, List.append_assoc, ← hxe]
              have fx := wheelTake_ok x hgx.i (by rw [hgx.p]; omega) (by rw [hgx.s]; omega) (good_check hs hgx (by omega))
              have fb := wheelTake_ok b hgb.i (by rw [hgb.p]; omega) (by rw [hgb.s]; omega) (good_check hs hgb (by omega))
              have rx := good_far hs hgx (by omega) hw.1 hw.2
              have rb := good_far hs hgb (by omega) hw.1 hw.2
              have gx := from_ok _ _ _ _ rx
              have gb := from_ok _ _ _ _ rb
              have hless := less_ok (awayN (nT (wheelT x)) (dT (wheelT x)) wn wd) (awayN (nT (wheelT b)) (dT (wheelT b)) wn wd) (dT (wheelT x)).toNat (dT (wheelT b)).toNat rx.away rb.away (by have := rx.d1; omega) (by have := rb.d1; omega)
              rw [show (((dT (wheelT x)).toNat : Nat) : Int) = dT (wheelT x) by have := rx.d0; omega, show (((dT (wheelT b)).toNat : Nat) : Int) = dT (wheelT b) by have := rb.d0; omega] at hless
              change lim F _ _ = some (AV.bool (nearW wn wd x b), []) at hless
              unfold takeV at fx fb
              unfold WheelA.av WheelA.cells at fx fb
              rw [hgx.t, hgx.s] at fx
              rw [hgb.t, hgb.s] at fb
              have hnl : (nx ++ (moreL w).take i).length ≤ 1000000 := by rw [List.length_append, List.length_take]; omega
              generalize hnn : nx ++ (moreL w).take i = nn at *
              have hxav : x.av = .agg [iv t.rat, iv t.step, .list 2 (t.pairs.map PairT.av), iv t.round, .list 1 (shop.map fun n => iv n), .list 1 (nsL x.ps)] := by
                unfold WheelA.av WheelA.cells; rw [hgx.t, hgx.s]
              rw [ebs, enx]
              cases hnear : nearW wn wd x b with
              | true =>
                rw [hnear] at hless
                have est : stepB wn wd b x = x := by unfold stepB; rw [hnear]; rfl
                rw [est]
                refine ⟨_, rfl, ?_⟩
                rw [hxav]
                repeat (first | apply Wp.seqA | apply Wp.skipS | apply Wp.blockS | ((first | apply Wp.regS | apply Wp.condV | apply Wp.reg | apply Wp.condW | apply fin_ret); simp -implicitDefEqProofs (maxSteps := 2000000) (disch := first | exact tt_rfl rfl | omega | (simp only [go_sem] <;> omega) | fail) only [go_sem, fx, fb, gx, gb, hless, List.length_map] <;> try with_reducible rfl) | apply Wp.block | apply Wp.exitS | apply Wp.retS | apply Wp.exit | apply Wp.ret | apply Wp.skip)
                apply block_norm
                apply round_next
                · simp -implicitDefEqProofs (maxSteps := 2000000) (disch := first | exact tt_rfl rfl | omega | (simp only [go_sem] <;> omega) | fail) only [go_sem, norm_eq, Ok.some]; with_reducible rfl
                refine .inr ?_
                rw [List.map_append, List.length_append]
                simp [hxav]
              | false =>
                rw [hnear] at hless
                have est : stepB wn wd b x = b := by unfold stepB; rw [hnear]; rfl
                rw [est]
                refine ⟨_, rfl, ?_⟩
                rw [hxav]
                repeat (first | apply Wp.seqA | apply Wp.skipS | apply Wp.blockS | ((first | apply Wp.regS | apply Wp.condV | apply Wp.reg | apply Wp.condW | apply fin_ret); simp -implicitDefEqProofs (maxSteps := 2000000) (disch := first | exact tt_rfl rfl | omega | (simp only [go_sem] <;> omega) | fail) only [go_sem, fx, fb, gx, gb, hless, List.length_map] <;> try with_reducible rfl) | apply Wp.block | apply Wp.exitS | apply Wp.retS | apply Wp.exit | apply Wp.ret | apply Wp.skip)
                apply block_norm
                apply round_next
                · simp -implicitDefEqProofs (maxSteps := 2000000) (disch := first | exact tt_rfl rfl | omega | (simp only [go_sem] <;> omega) | fail) only [go_sem, norm_eq, Ok.some]; with_reducible rfl
                refine .inr ?_
                rw [List.map_append, List.length_append]
                simp [hxav]
          · rintro fr hS
            have hwl : (wV (moreL w)).length = (moreL w).length := by simp [wV]
            rw [hwl, List.take_length, hnx1, hsn1] at hS
            rcases hS with ⟨rfl, hW⟩ | rfl
            · apply block_norm
              repeat (first | apply Wp.seqA | apply Wp.skipS | apply Wp.blockS | ((first | apply Wp.regS | apply Wp.condV | apply Wp.reg | apply Wp.condW | apply fin_ret); simp -implicitDefEqProofs (maxSteps := 2000000) (disch := first | exact tt_rfl rfl | omega | (simp only [go_sem] <;> omega) | fail) only [go_sem] <;> try with_reducible rfl) | apply Wp.block | apply Wp.exitS | apply Wp.retS | apply Wp.exit | apply Wp.ret | apply Wp.skip)
              apply round_next
              · simp -implicitDefEqProofs (maxSteps := 2000000) (disch := first | exact tt_rfl rfl | omega | (simp only [go_sem] <;> omega) | fail) only [go_sem, norm_eq, Ok.some]; with_reducible rfl
              exact ⟨hjn, .inl ⟨by simp, hW⟩⟩
            · apply block_norm
              repeat (first | apply Wp.seqA | apply Wp.skipS | apply Wp.blockS | ((first | apply Wp.regS | apply Wp.condV | apply Wp.reg | apply Wp.condW | apply fin_ret); simp -implicitDefEqProofs (maxSteps := 2000000) (disch := first | exact tt_rfl rfl | omega | (simp only [go_sem] <;> omega) | fail) only [go_sem] <;> try with_reducible rfl) | apply Wp.block | apply Wp.exitS | apply Wp.retS | apply Wp.exit | apply Wp.ret | apply Wp.skip)
              apply round_next
              · simp -implicitDefEqProofs (maxSteps := 2000000) (disch := first | exact tt_rfl rfl | omega | (simp only [go_sem] <;> omega) | fail) only [go_sem, norm_eq, Ok.some]; with_reducible rfl
              exact ⟨hjn, .inr (by simp)⟩
        · skip
          repeat (first | apply Wp.seqA | apply Wp.skipS | apply Wp.blockS | ((first | apply Wp.regS | apply Wp.condV | apply Wp.reg | apply Wp.condW | apply fin_ret); simp -implicitDefEqProofs (maxSteps := 2000000) (disch := first | exact tt_rfl rfl | omega | (simp only [go_sem] <;> omega) | fail) only [go_sem, show (j : Int) < now.length by omega, List.length_map, gj, hmore] <;> try with_reducible rfl) | apply Wp.block | apply Wp.exitS | apply Wp.retS | apply Wp.exit | apply Wp.ret | apply Wp.skip)
          refine Wp.rangeF (fun i fr => ((fr = ⟨[(6, .ptr 384 0 0), (9, .ptr 576 0 0), (11, .ptr 704 0 0), (13, .ptr 832 0 0), (55, iv (pairs : Int)), (56, iv (k : Int)), (58, .slice 3712 0 now.length), (59, iv (now.length : Int)), (60, iv (j : Int))], [(384, .box [iv wn, iv wd]), (576, .box [iv 0, iv 0]), (704, .box [iv t.rat, iv t.step, .list 2 (t.pairs.map PairT.av), iv t.round, .list 1 (shop.map fun n => iv n), .slice 311269 0 0]), (832, .box [.slice 313312 0 (nx ++ (moreL w).take i).length]), (3712, .arr 6 (now.map WheelA.av)), (311269, .arr 1 []), (313312, .arr 6 ((nx ++ (moreL w).take i).map WheelA.av))], [], 10000000⟩ ∧ bestOf wn wd W0 (seen ++ (moreL w).take i) = W0) ∨ fr = ⟨[(6, .ptr 384 0 0), (9, .ptr 576 0 0), (11, .ptr 704 0 0), (13, .ptr 832 0 0), (55, iv (pairs : Int)), (56, iv (k : Int)), (58, .slice 3712 0 now.length), (59, iv (now.length : Int)), (60, iv (j : Int))], [(384, .box [iv wn, iv wd]), (576, .box [iv 0, iv 0]), (704, .box [iv t.rat, iv t.step, .list 2 (t.pairs.map PairT.av), iv t.round, .list 1 (shop.map fun n => iv n), .list 1 (nsL (bestOf wn wd W0 (seen ++ (moreL w).take i)).ps)]), (832, .box [.slice 313312 0 (nx ++ (moreL w).take i).length]), (3712, .arr 6 (now.map WheelA.av)), (313312, .arr 6 ((nx ++ (moreL w).take i).map WheelA.av))], [], 10000000⟩)) rfl rfl hg hch ?_ ?_ ?_
          · simp -implicitDefEqProofs (maxSteps := 2000000) (disch := first | exact tt_rfl rfl | omega | (simp only [go_sem] <;> omega) | fail) only [go_sem, norm_eq, Ok.some]
            first | exact .inr (by simp) | trace_state
          · rintro i v fr hv hS
            have hlt : i < (moreL w).length := by
              rcases Nat.lt_or_ge i (moreL w).length with h | h
              · exact h
              · rw [List.getElem?_eq_none (by simpa [wV] using h)] at hv; cases hv
            obtain ⟨x, hxe⟩ : ∃ x, x = (moreL w)[i] := ⟨_, rfl⟩
            have hv' : v = [x.av] := by
              unfold wV at hv
              rw [List.getElem?_map, List.getElem?_eq_getElem hlt, ← hxe] at hv
              cases hv; rfl
            subst hv'
            have hgx := more_good hgw x (by rw [hxe]; exact List.getElem_mem hlt)
            rcases hS with ⟨rfl, hW⟩ | rfl
            · skip
              obtain ⟨b, hbb⟩ : ∃ b, b = bestOf wn wd W0 (seen ++ (moreL w).take i) := ⟨_, rfl⟩
              have hgb0 : ∃ m, m ≤ 2 ∧ Good t shop m b := by
                have := bestOf_mem wn wd (seen ++ (moreL w).take i) W0
                rw [← hbb] at this
                rcases List.mem_cons.1 this with h | h
                · exact ⟨0, by omega, by rw [h]; exact hlg 0 _ (by simp [lv])⟩
                · rcases List.mem_append.1 h with h | h
                  · exact hseen b h
                  · exact ⟨k + 1, by omega, more_good hgw b (List.mem_of_mem_take h)⟩
              obtain ⟨m, hm2, hgb⟩ := hgb0
              have hb0 : b = W0 := by rw [hbb]; exact hW
              have ebs : bestOf wn wd W0 (seen ++ (moreL w).take (i + 1)) = stepB wn wd b x := by
                rw [List.take_succ_eq_append_getElem hlt, ← List.append_assoc, bestOf_snoc, ← hbb, ← hxe]
              have enx : nx ++ (moreL w).take (i + 1) = (nx ++ (moreL w).take i) ++ [x] := by
                rw [List.take_succ_eq_append_getElem hlt, List.append_assoc, ← hxe]
              have fx := wheelTake_ok x hgx.i (by rw [hgx.p]; omega) (by rw [hgx.s]; omega) (good_check hs hgx (by omega))
              have fb := wheelTake_ok b hgb.i (by rw [hgb.p]; omega) (by rw [hgb.s]; omega) (good_check hs hgb (by omega))
              have rx := good_far hs hgx (by omega) hw.1 hw.2
              have rb := good_far hs hgb (by omega) hw.1 hw.2
              have gx := from_ok _ _ _ _ rx
              have gb := from_ok _ _ _ _ rb
              have hless := less_ok (awayN (nT (wheelT x)) (dT (wheelT x)) wn wd) (awayN (nT (wheelT b)) (dT (wheelT b)) wn wd) (dT (wheelT x)).toNat (dT (wheelT b)).toNat rx.away rb.away (by have := rx.d1; omega) (by have := rb.d1; omega)
              rw [show (((dT (wheelT x)).toNat : Nat) : Int) = dT (wheelT x) by have := rx.d0; omega, show (((dT (wheelT b)).toNat : Nat) : Int) = dT (wheelT b) by have := rb.d0; omega] at hless
              change lim F _ _ = some (AV.bool (nearW wn wd x b), []) at hless
              unfold takeV at fx fb
              unfold WheelA.av WheelA.cells at fx fb
              rw [hgx.t, hgx.s] at fx
              rw [hgb.t, hgb.s] at fb
              have hnl : (nx ++ (moreL w).take i).length ≤ 1000000 := by rw [List.length_append, List.length_take]; omega
              generalize hnn : nx ++ (moreL w).take i = nn at *
              have hxav : x.av = .agg [iv t.rat, iv t.step, .list 2 (t.pairs.map PairT.av), iv t.round, .list 1 (shop.map fun n => iv n), .list 1 (nsL x.ps)] := by
                unfold WheelA.av WheelA.cells; rw [hgx.t, hgx.s]
              rw [ebs, enx]
              have hnil : nsL b.ps = [] := by rw [hb0, hW0]; rfl
              rw [hnil] at fb
              cases hnear : nearW wn wd x b with
              | true =>
                rw [hnear] at hless
                have est : stepB wn wd b x = x := by unfold stepB; rw [hnear]; rfl
                rw [est]
                refine ⟨_, rfl, ?_⟩
                rw [hxav]
                repeat (first | apply Wp.seqA | apply Wp.skipS | apply Wp.blockS | ((first | apply Wp.regS | apply Wp.condV | apply Wp.reg | apply Wp.condW | apply fin_ret); simp -implicitDefEqProofs (maxSteps := 2000000) (disch := first | exact tt_rfl rfl | omega | (simp only [go_sem] <;> omega) | fail) only [go_sem, fx, fb, gx, gb, hless, List.length_map] <;> try with_reducible rfl) | apply Wp.block | apply Wp.exitS | apply Wp.retS | apply Wp.exit | apply Wp.ret | apply Wp.skip)
                apply block_norm
                apply round_next
                · simp -implicitDefEqProofs (maxSteps := 2000000) (disch := first | exact tt_rfl rfl | omega | (simp only [go_sem] <;> omega) | fail) only [go_sem, norm_eq, Ok.some]; with_reducible rfl
                refine .inr ?_
                rw [List.map_append, List.length_append]
                simp [hxav]
              | false =>
                rw [hnear] at hless
                have est : stepB wn wd b x = b := by unfold stepB; rw [hnear]; rfl
                rw [est]
                refine ⟨_, rfl, ?_⟩
                rw [hxav]
                repeat (first | apply Wp.seqA | apply Wp.skipS | apply Wp.blockS | ((first | apply Wp.regS | apply Wp.condV | apply Wp.reg | apply Wp.condW | apply fin_ret); simp -implicitDefEqProofs (maxSteps := 2000000) (disch := first | exact tt_rfl rfl | omega | (simp only [go_sem] <;> omega) | fail) only [go_sem, fx, fb, gx, gb, hless, List.length_map] <;> try with_reducible rfl) | apply Wp.block | apply Wp.exitS | apply Wp.retS | apply Wp.exit | apply Wp.ret | apply Wp.skip)
                apply block_norm
                apply round_next
                · simp -implicitDefEqProofs (maxSteps := 2000000) (disch := first | exact tt_rfl rfl | omega | (simp only [go_sem] <;> omega) | fail) only [go_sem, norm_eq, Ok.some]; with_reducible rfl
                refine .inl ⟨?_, hb0⟩
                rw [List.map_append, List.length_append]
                simp [hxav]
            · skip
              obtain ⟨b, hbb⟩ : ∃ b, b = bestOf wn wd W0 (seen ++ (moreL w).take i) := ⟨_, rfl⟩
              have hgb0 : ∃ m, m ≤ 2 ∧ Good t shop m b := by
                have := bestOf_mem wn wd (seen ++ (moreL w).take i) W0
                rw [← hbb] at this
                rcases List.mem_cons.1 this with h | h
                · exact ⟨0, by omega, by rw [h]; exact hlg 0 _ (by simp [lv])⟩
                · rcases List.mem_append.1 h with h | h
                  · exact hseen b h
                  · exact ⟨k + 1, by omega, more_good hgw b (List.mem_of_mem_take h)⟩
              obtain ⟨m, hm2, hgb⟩ := hgb0
              rw [← hbb]
              have ebs : bestOf wn wd W0 (seen ++ (moreL w).take (i + 1)) = stepB wn wd b x := by
                rw [List.take_succ_eq_append_getElem hlt, ← List.append_assoc, bestOf_snoc, ← hbb, ← hxe]
              have enx : nx ++ (moreL w).take (i + 1) = (nx ++ (moreL w).take i) ++ [x] := by
                rw [List.take_succ_eq_append_getElem hlt, List.append_assoc, ← hxe]
              have fx := wheelTake_ok x hgx.i (by rw [hgx.p]; omega) (by rw [hgx.s]; omega) (good_check hs hgx (by omega))
              have fb := wheelTake_ok b hgb.i (by rw [hgb.p]; omega) (by rw [hgb.s]; omega) (good_check hs hgb (by omega))
              have rx := good_far hs hgx (by omega) hw.1 hw.2
              have rb := good_far hs hgb (by omega) hw.1 hw.2
              have gx := from_ok _ _ _ _ rx
              have gb := from_ok _ _ _ _ rb
              have hless := less_ok (awayN (nT (wheelT x)) (dT (wheelT x)) wn wd) (awayN (nT (wheelT b)) (dT (wheelT b)) wn wd) (dT (wheelT x)).toNat (dT (wheelT b)).toNat rx.away rb.away (by have := rx.d1; omega) (by have := rb.d1; omega)
              rw [show (((dT (wheelT x)).toNat : Nat) : Int) = dT (wheelT x) by have := rx.d0; omega, show (((dT (wheelT b)).toNat : Nat) : Int) = dT (wheelT b) by have := rb.d0; omega] at hless
              change lim F _ _ = some (AV.bool (nearW wn wd x b), []) at hless
              unfold takeV at fx fb
              unfold WheelA.av WheelA.cells at fx fb
              rw [hgx.t, hgx.s] at fx
              rw [hgb.t, hgb.s] at fb
              have hnl : (nx ++ (moreL w).take i).length ≤ 1000000 := by rw [List.length_append, List.length_take]; omega
              generalize hnn : nx ++ (moreL w).take i = nn at *
              have hxav : x.av = .agg [iv t.rat, iv t.step, .list 2 (t.pairs.map PairT.av), iv t.round, .list 1 (shop.map fun n => iv n), .list 1 (nsL x.ps)] := by
                unfold WheelA.av WheelA.cells; rw [hgx.t, hgx.s]
              rw [ebs, enx]
              cases hnear : nearW wn wd x b with
              | true =>
                rw [hnear] at hless
                have est : stepB wn wd b x = x := by unfold stepB; rw [hnear]; rfl
                rw [est]
                refine ⟨_, rfl, ?_⟩
                rw [hxav]
                repeat (first | apply Wp.seqA | apply Wp.skipS | apply Wp.blockS | ((first | apply Wp.regS | apply Wp.condV | apply Wp.reg | apply Wp.condW | apply fin_ret); simp -implicitDefEqProofs (maxSteps := 2000000) (disch := first | exact tt_rfl rfl | omega | (simp only [go_sem] <;> omega) | fail) only [go_sem, fx, fb, gx, gb, hless, List.length_map] <;> try with_reducible rfl) | apply Wp.block | apply Wp.exitS | apply Wp.retS | apply Wp.exit | apply Wp.ret | apply Wp.skip)
                apply block_norm
                apply round_next
                · simp -implicitDefEqProofs (maxSteps := 2000000) (disch := first | exact tt_rfl rfl | omega | (simp only [go_sem] <;> omega) | fail) only [go_sem, norm_eq, Ok.some]; with_reducible rfl
                refine .inr ?_
                rw [List.map_append, List.length_append]
                simp [hxav]
              | false =>
                rw [hnear] at hless
                have est : stepB wn wd b x = b := by unfold stepB; rw [hnear]; rfl
                rw [est]
                refine ⟨_, rfl, ?_⟩
                rw [hxav]
                repeat (first | apply Wp.seqA | apply Wp.skipS | apply Wp.blockS | ((first | apply Wp.regS | apply Wp.condV | apply Wp.reg | apply Wp.condW | apply fin_ret); simp -implicitDefEqProofs (maxSteps := 2000000) (disch := first | exact tt_rfl rfl | omega | (simp only [go_sem] <;> omega) | fail) only [go_sem, fx, fb, gx, gb, hless, List.length_map] <;> try with_reducible rfl) | apply Wp.block | apply Wp.exitS | apply Wp.retS | apply Wp.exit | apply Wp.ret | apply Wp.skip)
                apply block_norm
                apply round_next
                · simp -implicitDefEqProofs (maxSteps := 2000000) (disch := first | exact tt_rfl rfl | omega | (simp only [go_sem] <;> omega) | fail) only [go_sem, norm_eq, Ok.some]; with_reducible rfl
                refine .inr ?_
                rw [List.map_append, List.length_append]
                simp [hxav]
          · rintro fr hS
            have hwl : (wV (moreL w)).length = (moreL w).length := by simp [wV]
            rw [hwl, List.take_length, hnx1, hsn1] at hS
            rcases hS with ⟨rfl, hW⟩ | rfl
            · apply block_norm
              repeat (first | apply Wp.seqA | apply Wp.skipS | apply Wp.blockS | ((first | apply Wp.regS | apply Wp.condV | apply Wp.reg | apply Wp.condW | apply fin_ret); simp -implicitDefEqProofs (maxSteps := 2000000) (disch := first | exact tt_rfl rfl | omega | (simp only [go_sem] <;> omega) | fail) only [go_sem] <;> try with_reducible rfl) | apply Wp.block | apply Wp.exitS | apply Wp.retS | apply Wp.exit | apply Wp.ret | apply Wp.skip)
              apply round_next
              · simp -implicitDefEqProofs (maxSteps := 2000000) (disch := first | exact tt_rfl rfl | omega | (simp only [go_sem] <;> omega) | fail) only [go_sem, norm_eq, Ok.some]; with_reducible rfl
              exact ⟨hjn, .inl ⟨by simp, hW⟩⟩
            · apply block_norm
              repeat (first | apply Wp.seqA | apply Wp.skipS | apply Wp.blockS | ((first | apply Wp.regS | apply Wp.condV | apply Wp.reg | apply Wp.condW | apply fin_ret); simp -implicitDefEqProofs (maxSteps := 2000000) (disch := first | exact tt_rfl rfl | omega | (simp only [go_sem] <;> omega) | fail) only [go_sem] <;> try with_reducible rfl) | apply Wp.block | apply Wp.exitS | apply Wp.retS | apply Wp.exit | apply Wp.ret | apply Wp.skip)
              apply round_next
              · simp -implicitDefEqProofs (maxSteps := 2000000) (disch := first | exact tt_rfl rfl | omega | (simp only [go_sem] <;> omega) | fail) only [go_sem, norm_eq, Ok.some]; with_reducible rfl
              exact ⟨hjn, .inr (by simp)⟩
      · obtain rfl : j = now.length := by omega
        rw [List.take_length] at hS
        have en : lv W0 (k + 1) = now.flatMap moreL := by rw [hnow]; rfl
        have eu : upTo W0 (k + 1) = upTo W0 k ++ now.flatMap moreL := by rw [← en]; rfl
        rw [en, eu]
        have hnl : (now.flatMap moreL).length ≤ 262144 := by
          have h1 := flat_len moreL 64 now fun y hy => more_len (by rw [(hlg k y (by rw [← hnow]; exact hy)).s]; exact hl8)
          have h2 : now.length * 64 ≤ 4096 * 64 := Nat.mul_le_mul_right 64 hlvl
          omega
        rcases hS with ⟨rfl, hW⟩ | rfl
        · repeat (first | apply Wp.seqA | apply Wp.skipS | apply Wp.blockS | ((first | apply Wp.regS | apply Wp.condV | apply Wp.reg | apply Wp.condW | apply fin_ret); simp -implicitDefEqProofs (maxSteps := 2000000) (disch := first | exact tt_rfl rfl | omega | (simp only [go_sem] <;> omega) | fail) only [go_sem, Int.lt_irrefl] <;> try with_reducible rfl) | apply Wp.block | apply Wp.exitS | apply Wp.retS | apply Wp.exit | apply Wp.ret | apply Wp.skip)
          apply round_next
          · simp -implicitDefEqProofs (maxSteps := 2000000) (disch := first | exact tt_rfl rfl | omega | (simp only [go_sem] <;> omega) | fail) only [go_sem, norm_eq, Ok.some]; with_reducible rfl
          exact ⟨hkp, .inl ⟨by simp, hW⟩⟩
        · repeat (first | apply Wp.seqA | apply Wp.skipS | apply Wp.blockS | ((first | apply Wp.regS | apply Wp.condV | apply Wp.reg | apply Wp.condW | apply fin_ret); simp -implicitDefEqProofs (maxSteps := 2000000) (disch := first | exact tt_rfl rfl | omega | (simp only [go_sem] <;> omega) | fail) only [go_sem, Int.lt_irrefl] <;> try with_reducible rfl) | apply Wp.block | apply Wp.exitS | apply Wp.retS | apply Wp.exit | apply Wp.ret | apply Wp.skip)
          apply round_next
          · simp -implicitDefEqProofs (maxSteps := 2000000) (disch := first | exact tt_rfl rfl | omega | (simp only [go_sem] <;> omega) | fail) only [go_sem, norm_eq, Ok.some]; with_reducible rfl
          exact ⟨hkp, .inr (by simp)⟩
  · obtain rfl : k = pairs := by omega
    have hgb0 : ∃ m, m ≤ 2 ∧ Good t shop m (bestOf wn wd W0 (upTo W0 k)) := by
      rcases List.mem_cons.1 (bestOf_mem wn wd (upTo W0 k) W0) with h | h
      · exact ⟨0, by omega, by rw [h]; exact hlg 0 _ (by simp [lv])⟩
      · obtain ⟨m, hm, hg⟩ := hug k _ h
        exact ⟨m, by omega, hg⟩
    obtain ⟨m, hm2, hgb⟩ := hgb0
    have fb := wheelTake_ok _ hgb.i (by rw [hgb.p]; omega) (by rw [hgb.s]; omega) (good_check hs hgb (by omega))
    unfold takeV at fb ⊢
    unfold WheelA.av WheelA.cells at fb
    rw [hgb.t, hgb.s] at fb
    rcases hS with ⟨rfl, hW⟩ | rfl
    · have hb0 : nsL (bestOf wn wd W0 (upTo W0 k)).ps = [] := by rw [hW, hW0]; rfl
      rw [hb0] at fb
      have hps : (bestOf wn wd W0 (upTo W0 k)).ps = [] := by rw [hW, hW0]
      repeat (first | apply Wp.seqA | apply Wp.skipS | apply Wp.blockS | ((first | apply Wp.regS | apply Wp.condV | apply Wp.reg | apply Wp.condW | apply fin_ret); simp -implicitDefEqProofs (maxSteps := 2000000) (disch := first | exact tt_rfl rfl | omega | (simp only [go_sem] <;> omega) | fail) only [go_sem, Int.lt_irrefl, fb] <;> try with_reducible rfl) | apply Wp.block | apply Wp.exitS | apply Wp.retS | apply Wp.exit | apply Wp.ret | apply Wp.skip)
      exact ⟨_, rfl, _, rfl, .inl ⟨rfl, hps⟩⟩
    · repeat (first | apply Wp.seqA | apply Wp.skipS | apply Wp.blockS | ((first | apply Wp.regS | apply Wp.condV | apply Wp.reg | apply Wp.condW | apply fin_ret); simp -implicitDefEqProofs (maxSteps := 2000000) (disch := first | exact tt_rfl rfl | omega | (simp only [go_sem] <;> omega) | fail) only [go_sem, Int.lt_irrefl, fb] <;> try with_reducible rfl) | apply Wp.block | apply Wp.exitS | apply Wp.retS | apply Wp.exit | apply Wp.ret | apply Wp.skip)
      exact ⟨_, rfl, _, rfl, .inr rfl⟩
end Go.Abs
