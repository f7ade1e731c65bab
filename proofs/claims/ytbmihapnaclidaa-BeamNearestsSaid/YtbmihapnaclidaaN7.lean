/-
  Chapter 6: the reference's wheels: contracts. No condition beyond those that each theorem names.
-/
import Derived.Test.YtbmihapnaclidaaN5
import Derived.Test.YtbmihapnaclidaaWpE
set_option linter.all false
namespace Go.Abs
set_option maxRecDepth 10000
set_option maxHeartbeats 8000000

theorem has_ok (l : List Int) (n : Int) (hl : l.length < 1000000) : lim F 109 [.list 1 (l.map fun n => iv n), iv n] = some (.bool (l.any fun m => decide (n = m)), []) := by
  refine lim_by (fn := a109) (k := 2) (res := [.tmp 4]) rfl rfl rfl (by simp -implicitDefEqProofs (maxSteps := 2000000) (disch := first | exact tt_rfl rfl | omega | (simp only [go_sem] <;> omega) | fail) only [go_sem]) ?_
  simp -implicitDefEqProofs (maxSteps := 2000000) (disch := first | exact tt_rfl rfl | omega | (simp only [go_sem] <;> omega) | fail) only [go_sem]
  repeat (first | apply Wp.seqA | apply Wp.skipS | apply Wp.blockS | ((first | apply Wp.regS | apply Wp.condV | apply Wp.reg | apply Wp.condW | apply fin_ret); simp -implicitDefEqProofs (maxSteps := 2000000) (disch := first | exact tt_rfl rfl | omega | (simp only [go_sem] <;> omega) | fail) only [go_sem] <;> try with_reducible rfl) | apply Wp.block | apply Wp.exitS | apply Wp.retS | apply Wp.exit | apply Wp.ret | apply Wp.skip)
  apply Wp.loopF l.length (fun i => ⟨[(0, .list 1 (l.map fun n => iv n)), (1, iv n), (5, iv i)], [], [], 10000000⟩) (fun i => ∀ j (hj : j < l.length), j < i → decide (n = l[j]) = false)
  · simp -implicitDefEqProofs (maxSteps := 2000000) (disch := first | exact tt_rfl rfl | omega | (simp only [go_sem] <;> omega) | fail) only [go_sem, norm_eq, Ok.some]
    try rfl
  · intro j hj h; omega
  intro i hi hn
  by_cases h : i < l.length
  · by_cases hb : n = l[i]
    · have e : (l.any fun m => decide (n = m)) = true := List.any_eq_true.2 ⟨l[i], List.getElem_mem h, decide_eq_true hb⟩
      rw [e]
      repeat (first | apply Wp.seqA | apply Wp.skipS | apply Wp.blockS | ((first | apply Wp.regS | apply Wp.condV | apply Wp.reg | apply Wp.condW | apply fin_ret); simp -implicitDefEqProofs (maxSteps := 2000000) (disch := first | exact tt_rfl rfl | omega | (simp only [go_sem] <;> omega) | fail) only [go_sem, h, List.getElem?_map, List.getElem?_eq_getElem h, Option.map_some, Int.ofNat_lt, eq_true hb.symm] <;> try with_reducible rfl) | apply Wp.block | apply Wp.exitS | apply Wp.retS | apply Wp.exit | apply Wp.ret | apply Wp.skip)
    · repeat (first | apply Wp.seqA | apply Wp.skipS | apply Wp.blockS | ((first | apply Wp.regS | apply Wp.condV | apply Wp.reg | apply Wp.condW | apply fin_ret); simp -implicitDefEqProofs (maxSteps := 2000000) (disch := first | exact tt_rfl rfl | omega | (simp only [go_sem] <;> omega) | fail) only [go_sem, h, List.getElem?_map, List.getElem?_eq_getElem h, Option.map_some, Int.ofNat_lt, show ¬ l[i] = n from fun e => hb e.symm] <;> try with_reducible rfl) | apply Wp.block | apply Wp.exitS | apply Wp.retS | apply Wp.exit | apply Wp.ret | apply Wp.skip)
      apply round_next
      · simp -implicitDefEqProofs (maxSteps := 2000000) (disch := first | exact tt_rfl rfl | omega | (simp only [go_sem] <;> omega) | fail) only [go_sem, norm_eq, Ok.some]; with_reducible rfl
      refine ⟨h, by simp, fun j hj hji => ?_⟩
      by_cases e : j = i
      · subst e; exact decide_eq_false hb
      · exact hn j hj (by omega)
  · repeat (first | apply Wp.seqA | apply Wp.skipS | apply Wp.blockS | ((first | apply Wp.regS | apply Wp.condV | apply Wp.reg | apply Wp.condW | apply fin_ret); simp -implicitDefEqProofs (maxSteps := 2000000) (disch := first | exact tt_rfl rfl | omega | (simp only [go_sem] <;> omega) | fail) only [go_sem, h, Int.ofNat_lt] <;> try with_reducible rfl) | apply Wp.block | apply Wp.exitS | apply Wp.retS | apply Wp.exit | apply Wp.ret | apply Wp.skip)
    have e : (l.any fun m => decide (n = m)) = false := List.any_eq_false.2 fun x hx => by
      obtain ⟨j, hj, rfl⟩ := List.getElem_of_mem hx
      rw [hn j hj (by omega)]; simp
    rw [e]

theorem nsL_get (ps : List P2) (i : Nat) (h : i < ps.length) : (nsL ps)[2 * i]? = some (iv ps[i].1) ∧ (nsL ps)[2 * i + 1]? = some (iv ps[i].2) := by
  have e := nsL_at h
  constructor
  · have h0 := congrArg (fun l => l[0]?) e
    simpa [List.getElem?_drop] using h0
  · have h0 := congrArg (fun l => l[1]?) e
    simpa [List.getElem?_drop] using h0
theorem with_ok (w : WheelA) (hin : w.In) (hl : w.ps.length ≤ 100) (hs : w.shop.length ≤ 1000) : lim F 108 [w.t.av, .list 1 (w.shop.map fun n => iv n), .list 1 (nsL w.ps)] = some (.agg [iv w.t.rat, iv w.t.step, .own 2 ((wheelT w).pairs.map PairT.av), iv w.t.round], []) := by
  unfold wheelT
  obtain ⟨t, shop, ps⟩ := w
  dsimp only at *
  have hnl := nsL_len ps
  have hnl' : ((nsL ps).length : Int) = 2 * ps.length := by omega
  have hsl : (shop.map fun n => iv n).length = shop.length := by simp
  have epm : (ps.map fun p => (⟨shopAt shop p.1, shopAt shop p.2⟩ : PairT)).map PairT.av = ps.map fun p => .agg [iv (shopAt shop p.1), iv (shopAt shop p.2)] := by rw [List.map_map]; rfl
  rw [epm]
  unfold TakeA.av
  refine lim_by (fn := a108) (k := 3) (res := [.cell 6 4 true]) rfl rfl rfl (by simp -implicitDefEqProofs (maxSteps := 2000000) (disch := first | exact tt_rfl rfl | omega | (simp only [go_sem] <;> omega) | fail) only [go_sem]) ?_
  simp -implicitDefEqProofs (maxSteps := 2000000) (disch := first | exact tt_rfl rfl | omega | (simp only [go_sem] <;> omega) | fail) only [go_sem]
  repeat (first | apply Wp.seqA | apply Wp.skipS | apply Wp.blockS | ((first | apply Wp.regS | apply Wp.condV | apply Wp.reg | apply Wp.condW | apply fin_ret); simp -implicitDefEqProofs (maxSteps := 2000000) (disch := first | exact tt_rfl rfl | omega | (simp only [go_sem] <;> omega) | fail) only [go_sem] <;> try with_reducible rfl) | apply Wp.block | apply Wp.exitS | apply Wp.retS | apply Wp.exit | apply Wp.ret | apply Wp.skip)
  apply Wp.loopF ps.length (fun i => ⟨[(1, .list 1 (shop.map fun n => iv n)), (2, .list 1 (nsL ps)), (3, .ptr 192 0 0), (6, .ptr 384 0 0), (7, iv (2 * i : Nat))], [(192, .box [iv t.rat, iv t.step, .slice 303074 0 i, iv t.round]), (384, .box [iv 0, iv 0, .slice 306146 0 0, iv 0]), (303074, .arr 2 ((ps.take i).map fun p => .agg [iv (shopAt shop p.1), iv (shopAt shop p.2)])), (306146, .arr 2 [])], [], 10000000⟩) (fun _ => True)
  · simp -implicitDefEqProofs (maxSteps := 2000000) (disch := first | exact tt_rfl rfl | omega | (simp only [go_sem] <;> omega) | fail) only [go_sem, norm_eq, Ok.some]
    simp
  · trivial
  intro i hi _
  by_cases h : i < ps.length
  · have hpi : (0 ≤ ps[i].1 ∧ ps[i].1 < shop.length) ∧ (0 ≤ ps[i].2 ∧ ps[i].2 < shop.length) := hin ps[i] (List.getElem_mem h)
    obtain ⟨c1, c2⟩ := nsL_get ps i h
    have hlen : ((ps.take i).map fun p => AV.agg [iv (shopAt shop p.1), iv (shopAt shop p.2)]).length = i := by simp; omega
    have e2 : ((ps.take (i + 1)).map fun p => AV.agg [iv (shopAt shop p.1), iv (shopAt shop p.2)]) = ((ps.take i).map fun p => AV.agg [iv (shopAt shop p.1), iv (shopAt shop p.2)]) ++ [.agg [iv (shopAt shop ps[i].1), iv (shopAt shop ps[i].2)]] := by
      rw [List.take_succ_eq_append_getElem h, List.map_append]
      simp
    generalize ((ps.take i).map fun p => AV.agg [iv (shopAt shop p.1), iv (shopAt shop p.2)]) = es at *
    generalize ps[i] = p at *
    have g1 : (shop.map fun n => iv n)[p.1.toNat]? = some (iv (shopAt shop p.1)) := by
      rw [List.getElem?_map, List.getElem?_eq_getElem (by omega)]
      simp [shopAt, List.getElem?_eq_getElem (show p.1.toNat < shop.length by omega)]
    have g2 : (shop.map fun n => iv n)[p.2.toNat]? = some (iv (shopAt shop p.2)) := by
      rw [List.getElem?_map, List.getElem?_eq_getElem (by omega)]
      simp [shopAt, List.getElem?_eq_getElem (show p.2.toNat < shop.length by omega)]
    generalize shopAt shop p.1 = s1 at *
    generalize shopAt shop p.2 = s2 at *
    generalize hm : 2 * i = m at *
    repeat (first | apply Wp.seqA | apply Wp.skipS | apply Wp.blockS | ((first | apply Wp.regS | apply Wp.condV | apply Wp.reg | apply Wp.condW | apply fin_ret); simp -implicitDefEqProofs (maxSteps := 2000000) (disch := first | exact tt_rfl rfl | omega | (simp only [go_sem] <;> omega) | fail) only [go_sem, hpi, hsl, hnl', show ((m + 1 : Nat) : Int) < 2 * ps.length by omega, show ((m : Nat) : Int) + 1 = ((m + 1 : Nat) : Int) by omega, c1, c2, g1, g2, hlen] <;> try with_reducible rfl) | apply Wp.block | apply Wp.exitS | apply Wp.retS | apply Wp.exit | apply Wp.ret | apply Wp.skip)
    apply round_next
    · simp -implicitDefEqProofs (maxSteps := 2000000) (disch := first | exact tt_rfl rfl | omega | (simp only [go_sem] <;> omega) | fail) only [go_sem, norm_eq, Ok.some]; with_reducible rfl
    refine ⟨h, ?_, trivial⟩
    rw [e2, show 2 * (i + 1) = m + 2 by omega]
    simp
  · obtain rfl : i = ps.length := by omega
    rw [List.take_length]
    repeat (first | apply Wp.seqA | apply Wp.skipS | apply Wp.blockS | ((first | apply Wp.regS | apply Wp.condV | apply Wp.reg | apply Wp.condW | apply fin_ret); simp -implicitDefEqProofs (maxSteps := 2000000) (disch := first | exact tt_rfl rfl | omega | (simp only [go_sem] <;> omega) | fail) only [go_sem, hnl', show ¬ (((2 * ps.length : Nat) : Int) + 1 < (2 : Int) * ps.length) by omega, List.length_map] <;> try with_reducible rfl) | apply Wp.block | apply Wp.exitS | apply Wp.retS | apply Wp.exit | apply Wp.ret | apply Wp.skip)

/-- the wheels of the levels below k -/
def pre (w0 : WheelA) : Nat → List WheelA
  | 0 => []
  | k + 1 => pre w0 k ++ lv w0 k
theorem pre_upTo (w0 : WheelA) : ∀ k, pre w0 (k + 1) = w0 :: upTo w0 k
  | 0 => rfl
  | k + 1 => by
    have e : pre w0 (k + 2) = pre w0 (k + 1) ++ lv w0 (k + 1) := rfl
    rw [e, pre_upTo w0 k]; rfl
def nsV (w : WheelA) : AV := .list 1 (nsL w.ps)
def resV (w : WheelA) : AV := .agg [.list 1 (nsL w.ps), iv (nT (wheelT w)), iv (dT (wheelT w))]
theorem all_ok (t : TakeA) (shop : List Int) (hs : ShopOk t shop) (pairs : Nat) (hp : pairs ≤ 2) : lim F 74 [t.av, .list 1 (shop.map fun n => iv n), iv (pairs : Int)] = some (.own 3 ((pre ⟨t, shop, []⟩ (pairs + 1)).map resV), []) := by
  obtain ⟨W0, hW0⟩ : ∃ W0 : WheelA, W0 = ⟨t, shop, []⟩ := ⟨_, rfl⟩
  rw [← hW0]
  have hlg : ∀ k, ∀ x ∈ lv W0 k, Good t shop k x := by rw [hW0]; exact lv_good
  have hll : ∀ k, (lv W0 k).length ≤ 64 ^ k := by rw [hW0]; exact lv_len hs.l
  have hl8 := hs.l
  have hpl : ∀ k, k ≤ 3 → (pre W0 k).length ≤ 100000 := by
    intro k hk
    have h0 := hll 0
    have h1 := hll 1
    have h2 := hll 2
    have p0 : (pre W0 0).length = 0 := rfl
    have p1 : (pre W0 1).length = (pre W0 0).length + (lv W0 0).length := by simp [pre]
    have p2 : (pre W0 2).length = (pre W0 1).length + (lv W0 1).length := by simp [pre]
    have p3 : (pre W0 3).length = (pre W0 2).length + (lv W0 2).length := by rw [← List.length_append]; rfl
    match k, hk with
    | 0, _ => omega
    | 1, _ => omega
    | 2, _ => omega
    | 3, _ => omega
  unfold TakeA.av
  refine lim_by (fn := a74) (k := 3) (res := [.tmp 6]) rfl rfl rfl (by simp -implicitDefEqProofs (maxSteps := 2000000) (disch := first | exact tt_rfl rfl | omega | (simp only [go_sem] <;> omega) | fail) only [go_sem]) ?_
  simp -implicitDefEqProofs (maxSteps := 2000000) (disch := first | exact tt_rfl rfl | omega | (simp only [go_sem] <;> omega) | fail) only [go_sem]
  repeat (first | apply Wp.seqA | apply Wp.skipS | apply Wp.blockS | ((first | apply Wp.regS | apply Wp.condV | apply Wp.reg | apply Wp.condW | apply fin_ret); simp -implicitDefEqProofs (maxSteps := 2000000) (disch := first | exact tt_rfl rfl | omega | (simp only [go_sem] <;> omega) | fail) only [go_sem] <;> try with_reducible rfl) | apply Wp.block | apply Wp.exitS | apply Wp.retS | apply Wp.exit | apply Wp.ret | apply Wp.skip)
  apply Wp.loopF (pairs + 1) (fun k => ⟨[(1, .list 1 (shop.map fun n => iv n)), (2, iv (pairs : Int)), (3, .ptr 192 0 0), (7, .slice 448 0 (pre W0 k).length), (8, .slice 512 0 (lv W0 k).length), (9, iv (k : Int))], [(192, .box [iv t.rat, iv t.step, .list 2 (t.pairs.map PairT.av), iv t.round]), (448, .arr 3 ((pre W0 k).map resV)), (512, .arr 1 ((lv W0 k).map nsV))], [], 10000000⟩) (fun _ => True)
  · simp -implicitDefEqProofs (maxSteps := 2000000) (disch := first | exact tt_rfl rfl | omega | (simp only [go_sem] <;> omega) | fail) only [go_sem, norm_eq, Ok.some]
    simp [lv, pre, nsV, hW0, nsL]
  · trivial
  intro k hk _
  by_cases hkp : k ≤ pairs
  · have hlvl : (lv W0 k).length ≤ 4096 := by
      have := hll k
      have h2 : 64 ^ k ≤ 64 ^ 2 := Nat.pow_le_pow_right (by omega) (by omega)
      omega
    have hprl := hpl k (by omega)
    repeat (first | apply Wp.seqA | apply Wp.skipS | apply Wp.blockS | ((first | apply Wp.regS | apply Wp.condV | apply Wp.reg | apply Wp.condW | apply fin_ret); simp -implicitDefEqProofs (maxSteps := 2000000) (disch := first | exact tt_rfl rfl | omega | (simp only [go_sem] <;> omega) | fail) only [go_sem, show (k : Int) ≤ pairs by omega] <;> try with_reducible rfl) | apply Wp.block | apply Wp.exitS | apply Wp.retS | apply Wp.exit | apply Wp.ret | apply Wp.skip)
    have epre : pre W0 (k + 1) = pre W0 k ++ lv W0 k := rfl
    have elv : lv W0 (k + 1) = (lv W0 k).flatMap moreL := rfl
    have hlgk := hlg k
    generalize lv W0 k = now at *
    generalize pre W0 k = pr at *
    apply Wp.loopF now.length (fun j => ⟨[(1, .list 1 (shop.map fun n => iv n)), (2, iv (pairs : Int)), (3, .ptr 192 0 0), (7, .slice 448 0 (pr ++ now.take j).length), (8, .slice 512 0 now.length), (9, iv (k : Int)), (10, .slice 640 0 ((now.take j).flatMap moreL).length), (11, iv (j : Int))], [(192, .box [iv t.rat, iv t.step, .list 2 (t.pairs.map PairT.av), iv t.round]), (448, .arr 3 ((pr ++ now.take j).map resV)), (512, .arr 1 (now.map nsV)), (640, .arr 1 (((now.take j).flatMap moreL).map nsV))], [], 10000000⟩) (fun _ => True)
    · simp -implicitDefEqProofs (maxSteps := 2000000) (disch := first | exact tt_rfl rfl | omega | (simp only [go_sem] <;> omega) | fail) only [go_sem, norm_eq, Ok.some]
      simp
    · trivial
    intro j hj _
    by_cases hjn : j < now.length
    · obtain ⟨w, hwe⟩ : ∃ w, w = now[j] := ⟨_, rfl⟩
      have hgw : Good t shop k w := hlgk w (by rw [hwe]; exact List.getElem_mem hjn)
      have gj : (now.map nsV)[j]? = some (.list 1 (nsL w.ps)) := by
        rw [List.getElem?_map, List.getElem?_eq_getElem hjn, ← hwe]; rfl
      have hwi := with_ok w hgw.i (by rw [hgw.p]; omega) (by rw [hgw.s]; omega)
      have htk := refTake_ok (wheelT w) (good_check hs hgw (by omega))
      have hni : (nsI w.ps).length < 1000000 := by rw [nsI_len, hgw.p]; omega
      have k1 := fun n => has_ok (nsI w.ps) n hni
      rw [← nsL_map] at k1
      have hnl := nsL_len w.ps
      rw [hgw.p] at hnl
      have hml : (moreL w).length ≤ 64 := more_len (by rw [hgw.s]; exact hl8)
      have hmo : moreL w = (List.range shop.length).flatMap (moreIn w (List.range shop.length)) := by rw [← hgw.s]; rfl
      have hsl : (shop.map fun n => iv n).length = shop.length := by simp
      have hnxl : ((now.take j).flatMap moreL).length ≤ 262144 := by
        have h1 := flat_len moreL 64 (now.take j) fun y hy => more_len (by rw [(hlgk y (List.mem_of_mem_take hy)).s]; exact hl8)
        rw [List.length_take] at h1
        have h2 : min j now.length * 64 ≤ 4096 * 64 := Nat.mul_le_mul_right 64 (by omega)
        omega
      have hprl' : (pr ++ now.take j).length ≤ 200000 := by rw [List.length_append, List.length_take]; omega
      have enx : (now.take (j + 1)).flatMap moreL = (now.take j).flatMap moreL ++ moreL w := by
        rw [List.take_succ_eq_append_getElem hjn, List.flatMap_append, ← hwe]; simp
      have eou : pr ++ now.take (j + 1) = (pr ++ now.take j) ++ [w] := by
        rw [List.take_succ_eq_append_getElem hjn, ← hwe, List.append_assoc]
      have ers : resV w = .agg [.list 1 (nsL w.ps), iv (nT (wheelT w)), iv (dT (wheelT w))] := rfl
      have e1 : (wheelT w).rat = w.t.rat := rfl
      have e3 : (wheelT w).step = w.t.step := rfl
      have e4 : (wheelT w).round = w.t.round := rfl
      unfold TakeA.av at hwi htk
      unfold takeV at htk
      rw [e1, e3, e4] at htk
      rw [hgw.t, hgw.s] at hwi
      rw [hgw.t] at htk
      have hpa : ((wheelT w).pairs.map PairT.av).all AV.plain = true := pairT_plain _
      generalize (wheelT w).pairs.map PairT.av = es at *
      generalize (now.take j).flatMap moreL = nx at *
      generalize pr ++ now.take j = ou at *
      generalize hN : shop.length = N at *
      have hnow : now.length = now.length := rfl
      repeat (first | apply Wp.seqA | apply Wp.skipS | apply Wp.blockS | ((first | apply Wp.regS | apply Wp.condV | apply Wp.reg | apply Wp.condW | apply fin_ret); simp -implicitDefEqProofs (maxSteps := 2000000) (disch := first | exact tt_rfl rfl | omega | (simp only [go_sem] <;> omega) | fail) only [go_sem, show (j : Int) < now.length by omega, gj, hwi, htk, hpa, List.length_map] <;> try with_reducible rfl) | apply Wp.block | apply Wp.exitS | apply Wp.retS | apply Wp.exit | apply Wp.ret | apply Wp.skip)
      apply Wp.loopF N (fun a => ⟨[(1, .list 1 (shop.map fun n => iv n)), (2, iv (pairs : Int)), (3, .ptr 192 0 0), (7, .slice 448 0 (ou.length + 1)), (8, .slice 512 0 now.length), (9, iv (k : Int)), (10, .slice 640 0 (nx ++ ((List.range N).take a).flatMap (moreIn w (List.range N))).length), (11, iv (j : Int)), (12, iv (a : Int))], [(192, .box [iv t.rat, iv t.step, .list 2 (t.pairs.map PairT.av), iv t.round]), (448, .arr 3 (ou.map resV ++ [.agg [.list 1 (nsL w.ps), iv (nT (wheelT w)), iv (dT (wheelT w))]])), (512, .arr 1 (now.map nsV)), (640, .arr 1 ((nx ++ ((List.range N).take a).flatMap (moreIn w (List.range N))).map nsV))], [], 10000000⟩) (fun _ => True)
      · simp -implicitDefEqProofs (maxSteps := 2000000) (disch := first | exact tt_rfl rfl | omega | (simp only [go_sem] <;> omega) | fail) only [go_sem, norm_eq, Ok.some]
        simp
      · trivial
      intro a ha _
      by_cases haN : a < N
      · have ena : nx ++ ((List.range N).take (a + 1)).flatMap (moreIn w (List.range N)) = (nx ++ ((List.range N).take a).flatMap (moreIn w (List.range N))) ++ moreIn w (List.range N) a := by
          rw [take_range_succ haN, List.flatMap_append, List.append_assoc]; simp
        have hna : (nx ++ ((List.range N).take a).flatMap (moreIn w (List.range N))).length ≤ 300000 := by
          have h1 := flat_len (moreIn w (List.range N)) 8 ((List.range N).take a) fun _ _ => by
            unfold moreIn
            rw [List.length_map]
            exact Nat.le_trans (List.length_filter_le _ _) (by simpa using hl8)
          rw [List.length_take, List.length_range] at h1
          rw [List.length_append]
          omega
        generalize nx ++ ((List.range N).take a).flatMap (moreIn w (List.range N)) = na at *
        repeat (first | apply Wp.seqA | apply Wp.skipS | apply Wp.blockS | ((first | apply Wp.regS | apply Wp.condV | apply Wp.reg | apply Wp.condW | apply fin_ret); simp -implicitDefEqProofs (maxSteps := 2000000) (disch := first | exact tt_rfl rfl | omega | (simp only [go_sem] <;> omega) | fail) only [go_sem, show (a : Int) < N by omega, hsl] <;> try with_reducible rfl) | apply Wp.block | apply Wp.exitS | apply Wp.retS | apply Wp.exit | apply Wp.ret | apply Wp.skip)
        apply Wp.loopF N (fun b => ⟨[(1, .list 1 (shop.map fun n => iv n)), (2, iv (pairs : Int)), (3, .ptr 192 0 0), (7, .slice 448 0 (ou.length + 1)), (8, .slice 512 0 now.length), (9, iv (k : Int)), (10, .slice 640 0 (na ++ moreIn w ((List.range N).take b) a).length), (11, iv (j : Int)), (12, iv (a : Int)), (13, iv (b : Int))], [(192, .box [iv t.rat, iv t.step, .list 2 (t.pairs.map PairT.av), iv t.round]), (448, .arr 3 (ou.map resV ++ [.agg [.list 1 (nsL w.ps), iv (nT (wheelT w)), iv (dT (wheelT w))]])), (512, .arr 1 (now.map nsV)), (640, .arr 1 ((na ++ moreIn w ((List.range N).take b) a).map nsV))], [], 10000000⟩) (fun _ => True)
        · simp -implicitDefEqProofs (maxSteps := 2000000) (disch := first | exact tt_rfl rfl | omega | (simp only [go_sem] <;> omega) | fail) only [go_sem, norm_eq, Ok.some]
          simp [moreIn]
        · trivial
        intro b hb _
        by_cases hbN : b < N
        · have hnb : (na ++ moreIn w ((List.range N).take b) a).length ≤ 400000 := by
            rw [List.length_append]
            unfold moreIn
            rw [List.length_map]
            have := List.length_filter_le (okW w a) ((List.range N).take b)
            rw [List.length_take, List.length_range] at this
            omega
          have q1 := k1 a
          have q2 := k1 b
          by_cases c1 : a = b
          · have hno : okW w a b = false := by simp [okW, c1]
            have hin : moreIn w ((List.range N).take (b + 1)) a = moreIn w ((List.range N).take b) a := by rw [take_range_succ hbN]; unfold moreIn; rw [List.filter_append, List.filter_cons_of_neg (by rw [hno]; simp)]; simp
            rw [hin]
            generalize na ++ moreIn w ((List.range N).take b) a = nb at *
            repeat (first | apply Wp.seqA | apply Wp.skipS | apply Wp.blockS | ((first | apply Wp.regS | apply Wp.condV | apply Wp.reg | apply Wp.condW | apply fin_ret); simp -implicitDefEqProofs (maxSteps := 2000000) (disch := first | exact tt_rfl rfl | omega | (simp only [go_sem] <;> omega) | fail) only [go_sem, show (b : Int) < N by omega, hsl, show (a : Int) = b by omega, bne_self_eq_false] <;> try with_reducible rfl) | apply Wp.block | apply Wp.exitS | apply Wp.retS | apply Wp.exit | apply Wp.ret | apply Wp.skip)
            apply round_next
            · simp -implicitDefEqProofs (maxSteps := 2000000) (disch := first | exact tt_rfl rfl | omega | (simp only [go_sem] <;> omega) | fail) only [go_sem, norm_eq, Ok.some]; with_reducible rfl
            refine ⟨hbN, ?_, trivial⟩
            simp [c1]
          · cases e1 : (nsI w.ps).any (fun m => decide ((a : Int) = m)) with
            | true =>
              have hno : okW w a b = false := by simp only [okW, e1]; simp
              have hin : moreIn w ((List.range N).take (b + 1)) a = moreIn w ((List.range N).take b) a := by rw [take_range_succ hbN]; unfold moreIn; rw [List.filter_append, List.filter_cons_of_neg (by rw [hno]; simp)]; simp
              rw [hin]
              rw [e1] at q1
              generalize na ++ moreIn w ((List.range N).take b) a = nb at *
              repeat (first | apply Wp.seqA | apply Wp.skipS | apply Wp.blockS | ((first | apply Wp.regS | apply Wp.condV | apply Wp.reg | apply Wp.condW | apply fin_ret); simp -implicitDefEqProofs (maxSteps := 2000000) (disch := first | exact tt_rfl rfl | omega | (simp only [go_sem] <;> omega) | fail) only [go_sem, show (b : Int) < N by omega, hsl, show ¬ (a : Int) = b by omega, show (a : Int) ≠ b by omega, show (j : Int) < now.length by omega, gj, q1, q2, List.length_map] <;> try with_reducible rfl) | apply Wp.block | apply Wp.exitS | apply Wp.retS | apply Wp.exit | apply Wp.ret | apply Wp.skip)
              apply round_next
              · simp -implicitDefEqProofs (maxSteps := 2000000) (disch := first | exact tt_rfl rfl | omega | (simp only [go_sem] <;> omega) | fail) only [go_sem, norm_eq, Ok.some]; with_reducible rfl
              refine ⟨hbN, ?_, trivial⟩
              simp
            | false =>
              rw [e1] at q1
              cases e2 : (nsI w.ps).any (fun m => decide ((b : Int) = m)) with
              | true =>
                have hno : okW w a b = false := by simp only [okW, e2]; simp
                have hin : moreIn w ((List.range N).take (b + 1)) a = moreIn w ((List.range N).take b) a := by rw [take_range_succ hbN]; unfold moreIn; rw [List.filter_append, List.filter_cons_of_neg (by rw [hno]; simp)]; simp
                rw [hin]
                rw [e2] at q2
                generalize na ++ moreIn w ((List.range N).take b) a = nb at *
                repeat (first | apply Wp.seqA | apply Wp.skipS | apply Wp.blockS | ((first | apply Wp.regS | apply Wp.condV | apply Wp.reg | apply Wp.condW | apply fin_ret); simp -implicitDefEqProofs (maxSteps := 2000000) (disch := first | exact tt_rfl rfl | omega | (simp only [go_sem] <;> omega) | fail) only [go_sem, show (b : Int) < N by omega, hsl, show ¬ (a : Int) = b by omega, show (a : Int) ≠ b by omega, show (j : Int) < now.length by omega, gj, q1, q2, List.length_map] <;> try with_reducible rfl) | apply Wp.block | apply Wp.exitS | apply Wp.retS | apply Wp.exit | apply Wp.ret | apply Wp.skip)
                apply round_next
                · simp -implicitDefEqProofs (maxSteps := 2000000) (disch := first | exact tt_rfl rfl | omega | (simp only [go_sem] <;> omega) | fail) only [go_sem, norm_eq, Ok.some]; with_reducible rfl
                refine ⟨hbN, ?_, trivial⟩
                simp
              | false =>
                rw [e2] at q2
                have hyes : okW w a b = true := by simp only [okW, e1, e2]; simp [c1]
                have hin : na ++ moreIn w ((List.range N).take (b + 1)) a = (na ++ moreIn w ((List.range N).take b) a) ++ [extW w a b] := by rw [take_range_succ hbN]; unfold moreIn; rw [List.filter_append, List.map_append, List.filter_cons_of_pos hyes, List.append_assoc]; rfl
                rw [hin]
                generalize na ++ moreIn w ((List.range N).take b) a = nb at *
                repeat (first | apply Wp.seqA | apply Wp.skipS | apply Wp.blockS | ((first | apply Wp.regS | apply Wp.condV | apply Wp.reg | apply Wp.condW | apply fin_ret); simp -implicitDefEqProofs (maxSteps := 2000000) (disch := first | exact tt_rfl rfl | omega | (simp only [go_sem] <;> omega) | fail) only [go_sem, show (b : Int) < N by omega, hsl, show ¬ (a : Int) = b by omega, show (a : Int) ≠ b by omega, show (j : Int) < now.length by omega, gj, q1, q2, List.length_map] <;> try with_reducible rfl) | apply Wp.block | apply Wp.exitS | apply Wp.retS | apply Wp.exit | apply Wp.ret | apply Wp.skip)
                apply round_next
                · simp -implicitDefEqProofs (maxSteps := 2000000) (disch := first | exact tt_rfl rfl | omega | (simp only [go_sem] <;> omega) | fail) only [go_sem, norm_eq, Ok.some]; with_reducible rfl
                refine ⟨hbN, ?_, trivial⟩
                simp only [nsV, extW, nsL_snoc, List.map_append, List.length_append, List.map_cons, List.map_nil, List.length_cons, List.length_nil]
                rw [List.take_of_length_le (by simp)]
                simp
        · obtain rfl : b = N := by omega
          have htr : (List.range b).take b = List.range b := List.take_of_length_le (by simp)
          rw [htr]
          repeat (first | apply Wp.seqA | apply Wp.skipS | apply Wp.blockS | ((first | apply Wp.regS | apply Wp.condV | apply Wp.reg | apply Wp.condW | apply fin_ret); simp -implicitDefEqProofs (maxSteps := 2000000) (disch := first | exact tt_rfl rfl | omega | (simp only [go_sem] <;> omega) | fail) only [go_sem, hsl, Int.lt_irrefl] <;> try with_reducible rfl) | apply Wp.block | apply Wp.exitS | apply Wp.retS | apply Wp.exit | apply Wp.ret | apply Wp.skip)
          apply round_next
          · simp -implicitDefEqProofs (maxSteps := 2000000) (disch := first | exact tt_rfl rfl | omega | (simp only [go_sem] <;> omega) | fail) only [go_sem, norm_eq, Ok.some]; with_reducible rfl
          refine ⟨haN, ?_, trivial⟩
          rw [ena]
          simp
      · obtain rfl : a = N := by omega
        have htr : (List.range a).take a = List.range a := List.take_of_length_le (by simp)
        rw [htr, ← hmo]
        repeat (first | apply Wp.seqA | apply Wp.skipS | apply Wp.blockS | ((first | apply Wp.regS | apply Wp.condV | apply Wp.reg | apply Wp.condW | apply fin_ret); simp -implicitDefEqProofs (maxSteps := 2000000) (disch := first | exact tt_rfl rfl | omega | (simp only [go_sem] <;> omega) | fail) only [go_sem, hsl, Int.lt_irrefl] <;> try with_reducible rfl) | apply Wp.block | apply Wp.exitS | apply Wp.retS | apply Wp.exit | apply Wp.ret | apply Wp.skip)
        apply round_next
        · simp -implicitDefEqProofs (maxSteps := 2000000) (disch := first | exact tt_rfl rfl | omega | (simp only [go_sem] <;> omega) | fail) only [go_sem, norm_eq, Ok.some]; with_reducible rfl
        refine ⟨hjn, ?_, trivial⟩
        rw [enx, eou]
        simp [ers]
    · obtain rfl : j = now.length := by omega
      rw [List.take_length]
      repeat (first | apply Wp.seqA | apply Wp.skipS | apply Wp.blockS | ((first | apply Wp.regS | apply Wp.condV | apply Wp.reg | apply Wp.condW | apply fin_ret); simp -implicitDefEqProofs (maxSteps := 2000000) (disch := first | exact tt_rfl rfl | omega | (simp only [go_sem] <;> omega) | fail) only [go_sem, Int.lt_irrefl] <;> try with_reducible rfl) | apply Wp.block | apply Wp.exitS | apply Wp.retS | apply Wp.exit | apply Wp.ret | apply Wp.skip)
      apply round_next
      · simp -implicitDefEqProofs (maxSteps := 2000000) (disch := first | exact tt_rfl rfl | omega | (simp only [go_sem] <;> omega) | fail) only [go_sem, norm_eq, Ok.some]; with_reducible rfl
      refine ⟨by omega, ?_, trivial⟩
      rw [epre, elv]
      simp
  · obtain rfl : k = pairs + 1 := by omega
    repeat (first | apply Wp.seqA | apply Wp.skipS | apply Wp.blockS | ((first | apply Wp.regS | apply Wp.condV | apply Wp.reg | apply Wp.condW | apply fin_ret); simp -implicitDefEqProofs (maxSteps := 2000000) (disch := first | exact tt_rfl rfl | omega | (simp only [go_sem] <;> omega) | fail) only [go_sem, show ¬ ((pairs + 1 : Nat) : Int) ≤ pairs by omega] <;> try with_reducible rfl) | apply Wp.block | apply Wp.exitS | apply Wp.retS | apply Wp.exit | apply Wp.ret | apply Wp.skip)

theorem refNearest_ok (t : TakeA) (shop : List Int) (wn wd : Int) (pairs : Nat) (hs : ShopOk t shop) (hw1 : 1 ≤ wn ∧ wn ≤ 1000000) (hw2 : 1 ≤ wd ∧ wd ≤ 100) (hp : pairs ≤ 2) : lim F 26 [t.av, .list 1 (shop.map fun n => iv n), .agg [iv wn, iv wd], iv (pairs : Int)] = some (resV (bestOf wn wd ⟨t, shop, []⟩ (upTo ⟨t, shop, []⟩ pairs)), []) := by
  have ha := all_ok t shop hs pairs hp
  rw [pre_upTo] at ha
  obtain ⟨W0, hW0⟩ : ∃ W0 : WheelA, W0 = ⟨t, shop, []⟩ := ⟨_, rfl⟩
  rw [← hW0] at ha ⊢
  have hlg : ∀ k, ∀ x ∈ lv W0 k, Good t shop k x := by rw [hW0]; exact lv_good
  have hug : ∀ k, ∀ x ∈ upTo W0 k, ∃ j, j ≤ k ∧ Good t shop j x := by rw [hW0]; exact upTo_good
  have hg0 : Good t shop 0 W0 := hlg 0 _ (by simp [lv])
  have hgd : ∀ x ∈ upTo W0 pairs, ∃ j, j ≤ 2 ∧ Good t shop j x := fun x hx => by
    obtain ⟨j, hj, hg⟩ := hug pairs x hx
    exact ⟨j, by omega, hg⟩
  have hll : (upTo W0 pairs).length < 1000000 := by
    have hlv : ∀ k, (lv W0 k).length ≤ 64 ^ k := by rw [hW0]; exact lv_len hs.l
    have h1 := hlv 1
    have h2 := hlv 2
    have p1 : (upTo W0 1).length = (lv W0 1).length := by simp [upTo]
    have p2 : (upTo W0 2).length = (upTo W0 1).length + (lv W0 2).length := by rw [← List.length_append]; rfl
    match pairs, hp with
    | 0, _ => simp [upTo]
    | 1, _ => omega
    | 2, _ => omega
  clear hlg hug
  generalize upTo W0 pairs = us at *
  unfold TakeA.av at *
  refine lim_by (fn := a26) (k := 4) (res := [.cell 8 3 true]) rfl rfl rfl (by simp -implicitDefEqProofs (maxSteps := 2000000) (disch := first | exact tt_rfl rfl | omega | (simp only [go_sem] <;> omega) | fail) only [go_sem]) ?_
  simp -implicitDefEqProofs (maxSteps := 2000000) (disch := first | exact tt_rfl rfl | omega | (simp only [go_sem] <;> omega) | fail) only [go_sem]
  have hrs : ∀ w, resV w = .agg [.list 1 (nsL w.ps), iv (nT (wheelT w)), iv (dT (wheelT w))] := fun _ => rfl
  rw [List.map_cons, hrs W0] at ha
  rw [hrs]
  repeat (first | apply Wp.seqA | apply Wp.skipS | apply Wp.blockS | ((first | apply Wp.regS | apply Wp.condV | apply Wp.reg | apply Wp.condW | apply fin_ret); simp -implicitDefEqProofs (maxSteps := 2000000) (disch := first | exact tt_rfl rfl | omega | (simp only [go_sem] <;> omega) | fail) only [go_sem, ha, List.getElem?_cons_zero] <;> try with_reducible rfl) | apply Wp.block | apply Wp.exitS | apply Wp.retS | apply Wp.exit | apply Wp.ret | apply Wp.skip)
  apply Wp.loopF us.length (fun i => ⟨[(6, .ptr 384 0 0), (8, .ptr 512 0 0), (9, .slice 576 0 (us.length + 1)), (10, .ptr 640 0 0), (11, iv (i + 1 : Nat))], [(384, .box [iv wn, iv wd]), (512, .box [.slice 308192 0 0, iv 0, iv 0]), (576, .arr 3 (resV W0 :: us.map resV)), (640, .box [.list 1 (nsL (bestOf wn wd W0 (us.take i)).ps), iv (nT (wheelT (bestOf wn wd W0 (us.take i)))), iv (dT (wheelT (bestOf wn wd W0 (us.take i))))]), (308192, .arr 1 [])], [], 10000000⟩) (fun _ => True)
  · simp -implicitDefEqProofs (maxSteps := 2000000) (disch := first | exact tt_rfl rfl | omega | (simp only [go_sem] <;> omega) | fail) only [go_sem, norm_eq, Ok.some]
    simp [bestOf, hrs]
  · trivial
  intro i hi _
  have hgb0 : ∃ m, m ≤ 2 ∧ Good t shop m (bestOf wn wd W0 (us.take i)) := by
    rcases List.mem_cons.1 (bestOf_mem wn wd (us.take i) W0) with h | h
    · exact ⟨0, by omega, by rw [h]; exact hg0⟩
    · exact hgd _ (List.mem_of_mem_take h)
  obtain ⟨m, hm2, hgb⟩ := hgb0
  by_cases hlt : i < us.length
  · obtain ⟨x, hxe⟩ : ∃ x, x = us[i] := ⟨_, rfl⟩
    obtain ⟨m', hm', hgx⟩ := hgd us[i] (List.getElem_mem hlt)
    rw [← hxe] at hgx
    have ebs : bestOf wn wd W0 (us.take (i + 1)) = stepB wn wd (bestOf wn wd W0 (us.take i)) x := by
      rw [List.take_succ_eq_append_getElem hlt, bestOf_snoc, ← hxe]
    have gi : (resV W0 :: us.map resV)[i + 1]? = some (.agg [.list 1 (nsL x.ps), iv (nT (wheelT x)), iv (dT (wheelT x))]) := by
      rw [List.getElem?_cons_succ, List.getElem?_map, List.getElem?_eq_getElem hlt, ← hxe]; rfl
    rw [ebs]
    generalize bestOf wn wd W0 (us.take i) = b at *
    have rx := good_far hs hgx (by omega) hw1 hw2
    have rb := good_far hs hgb (by omega) hw1 hw2
    have hn := nearer_ok _ _ _ _ _ _ rx rb
    change lim F _ _ = some (AV.bool (nearW wn wd x b), []) at hn
    have hul : (us.map resV).length = us.length := by simp
    generalize hrl : resV W0 :: us.map resV = rl at *
    have hrll : rl.length = us.length + 1 := by rw [← hrl]; simp
    have hi1 : ((i + 1 : Nat) : Int) < ((us.length + 1 : Nat) : Int) := by omega
    cases hnear : nearW wn wd x b with
    | true =>
      rw [hnear] at hn
      have est : stepB wn wd b x = x := by unfold stepB; rw [hnear]; rfl
      rw [est]
      repeat (first | apply Wp.seqA | apply Wp.skipS | apply Wp.blockS | ((first | apply Wp.regS | apply Wp.condV | apply Wp.reg | apply Wp.condW | apply fin_ret); simp -implicitDefEqProofs (maxSteps := 2000000) (disch := first | exact tt_rfl rfl | omega | (simp only [go_sem] <;> omega) | fail) only [go_sem, hi1, gi, hn, hrll] <;> try with_reducible rfl) | apply Wp.block | apply Wp.exitS | apply Wp.retS | apply Wp.exit | apply Wp.ret | apply Wp.skip)
      apply round_next
      · simp -implicitDefEqProofs (maxSteps := 2000000) (disch := first | exact tt_rfl rfl | omega | (simp only [go_sem] <;> omega) | fail) only [go_sem, norm_eq, Ok.some]; with_reducible rfl
      exact ⟨hlt, by simp, trivial⟩
    | false =>
      rw [hnear] at hn
      have est : stepB wn wd b x = b := by unfold stepB; rw [hnear]; rfl
      rw [est]
      repeat (first | apply Wp.seqA | apply Wp.skipS | apply Wp.blockS | ((first | apply Wp.regS | apply Wp.condV | apply Wp.reg | apply Wp.condW | apply fin_ret); simp -implicitDefEqProofs (maxSteps := 2000000) (disch := first | exact tt_rfl rfl | omega | (simp only [go_sem] <;> omega) | fail) only [go_sem, hi1, gi, hn, hrll] <;> try with_reducible rfl) | apply Wp.block | apply Wp.exitS | apply Wp.retS | apply Wp.exit | apply Wp.ret | apply Wp.skip)
      apply round_next
      · simp -implicitDefEqProofs (maxSteps := 2000000) (disch := first | exact tt_rfl rfl | omega | (simp only [go_sem] <;> omega) | fail) only [go_sem, norm_eq, Ok.some]; with_reducible rfl
      exact ⟨hlt, by simp, trivial⟩
  · obtain rfl : i = us.length := by omega
    rw [List.take_length]
    repeat (first | apply Wp.seqA | apply Wp.skipS | apply Wp.blockS | ((first | apply Wp.regS | apply Wp.condV | apply Wp.reg | apply Wp.condW | apply fin_ret); simp -implicitDefEqProofs (maxSteps := 2000000) (disch := first | exact tt_rfl rfl | omega | (simp only [go_sem] <;> omega) | fail) only [go_sem, Int.lt_irrefl] <;> try with_reducible rfl) | apply Wp.block | apply Wp.exitS | apply Wp.retS | apply Wp.exit | apply Wp.ret | apply Wp.skip)
end Go.Abs
