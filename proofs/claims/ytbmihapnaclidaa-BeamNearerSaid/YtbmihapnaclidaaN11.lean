/-
  Chapter 6: what BeamNearer calls. No condition beyond those that each theorem names.
-/
import Derived.Test.YtbmihapnaclidaaN10
import Derived.Test.YtbmihapnaclidaaN6
set_option linter.all false
namespace Go.Abs
set_option maxRecDepth 10000
set_option maxHeartbeats 2000000

/-- a part that always ends with one frame -/
theorem Wp.meet {call : CallF} {fr fr2 : Fr} {Q : AEx → Fr → Prop} {a b : ACode} (ha : Wp call a fr (fun ex fr' => ex = .normal ∧ fr' = fr2)) (hb : Wp call b fr2 Q) : Wp call (.seq a b) fr Q :=
  Wp.seq (ha.mono fun ex fr' h => by obtain ⟨rfl, rfl⟩ := h; exact hb)

/-- the first statements, and the others -/
def frontC : Nat → ACode → ACode
  | n + 1, .seq a b => .seq a (frontC n b)
  | _, _ => .skip
def backC : Nat → ACode → ACode
  | n + 1, .seq _ b => backC n b
  | _, c => c
theorem Wp.seq_inv {call : CallF} {Q : AEx → Fr → Prop} {a b : ACode} {fr : Fr} (h : Wp call (.seq a b) fr Q) : Wp call a fr (thenQ call b Q) := by
  unfold Wp at h
  obtain ⟨n, ex, fr', h1, h2⟩ := h
  simp only [evalCode] at h1
  unfold Wp
  cases hx : evalCode call n a fr with
  | none => rw [hx] at h1; cases h1
  | some q =>
    obtain ⟨q1, q2⟩ := q
    rw [hx] at h1
    refine ⟨n, q1, q2, hx, ?_⟩
    cases q1 with
    | normal => show Wp call b q2 Q; unfold Wp; exact ⟨n, ex, fr', h1, h2⟩
    | exit i => cases h1; exact h2
    | ret => cases h1; exact h2
theorem Wp.skip_inv {call : CallF} {Q : AEx → Fr → Prop} {fr : Fr} (h : Wp call .skip fr Q) : Q .normal fr := by
  unfold Wp at h
  obtain ⟨n, ex, fr', h1, h2⟩ := h
  simp only [evalCode] at h1
  cases h1; exact h2
/-- the first statements, by all frames that they can leave -/
theorem Wp.cutP {call : CallF} {Q : AEx → Fr → Prop} (P : Fr → Prop) : ∀ (n : Nat) (c : ACode) (fr : Fr), Wp call (frontC n c) fr (fun ex fr' => ex = .normal ∧ P fr') → (∀ fr', P fr' → Wp call (backC n c) fr' Q) → Wp call c fr Q
  | n + 1, .seq a b, fr, h1, h2 => by
    refine Wp.seq ((Wp.seq_inv h1).mono fun ex fr' h => ?_)
    cases ex with
    | normal => exact Wp.cutP P n b fr' h h2
    | exit i => exact absurd h.1 (by simp)
    | ret => exact absurd h.1 (by simp)
  | 0, c, fr, h1, h2 => by
    have e1 : frontC 0 c = .skip := by cases c <;> rfl
    have e2 : backC 0 c = c := by cases c <;> rfl
    rw [e1] at h1; rw [e2] at h2
    exact h2 fr (Wp.skip_inv h1).2
  | _ + 1, .skip, fr, h1, h2 => h2 fr (Wp.skip_inv h1).2
  | _ + 1, .region .., fr, h1, h2 => h2 fr (Wp.skip_inv h1).2
  | _ + 1, .cond .., fr, h1, h2 => h2 fr (Wp.skip_inv h1).2
  | _ + 1, .block .., fr, h1, h2 => h2 fr (Wp.skip_inv h1).2
  | _ + 1, .loop .., fr, h1, h2 => h2 fr (Wp.skip_inv h1).2
  | _ + 1, .exit .., fr, h1, h2 => h2 fr (Wp.skip_inv h1).2
  | _ + 1, .ret, fr, h1, h2 => h2 fr (Wp.skip_inv h1).2
  | _ + 1, .rangeF .., fr, h1, h2 => h2 fr (Wp.skip_inv h1).2
  | _ + 1, .norm .., fr, h1, h2 => h2 fr (Wp.skip_inv h1).2

theorem ratioF_ok (n d : Int) : lim F 53 [iv n, iv d] = some (.agg [iv n, iv d], []) := by
  refine lim_by (fn := a53) (k := 2) (res := [.cell 4 2 true]) rfl rfl rfl (by simp -implicitDefEqProofs (maxSteps := 2000000) (disch := first | exact tt_rfl rfl | omega | (simp only [go_sem] <;> omega) | fail) only [go_sem]) ?_
  simp -implicitDefEqProofs (maxSteps := 2000000) (disch := first | exact tt_rfl rfl | omega | (simp only [go_sem] <;> omega) | fail) only [go_sem]
  repeat (first | apply Wp.seqA | apply Wp.skipS | apply Wp.blockS | ((first | apply Wp.regS | apply Wp.condV | apply Wp.reg | apply Wp.condW | apply fin_ret); simp -implicitDefEqProofs (maxSteps := 2000000) (disch := first | exact tt_rfl rfl | omega | (simp only [go_sem] <;> omega) | fail) only [go_sem] <;> try with_reducible rfl) | apply Wp.block | apply Wp.exitS | apply Wp.retS | apply Wp.exit | apply Wp.ret | apply Wp.skip)
theorem away1_ok (n d wn wd : Int) (h : FarOk n d wn wd) : lim F 55 [iv n, iv d, .agg [iv wn, iv wd]] = some (iv (awayN n d wn wd : Nat), []) := by
  have hi := h.in
  have e : max (n * wd - wn * d) (0 - (n * wd - wn * d)) = ((awayN n d wn wd : Nat) : Int) := by unfold awayN; omega
  generalize awayN n d wn wd = q at *
  refine lim_by (fn := a55) (k := 3) (res := [.tmp 6]) rfl rfl rfl (by simp -implicitDefEqProofs (maxSteps := 2000000) (disch := first | exact tt_rfl rfl | omega | (simp only [go_sem] <;> omega) | fail) only [go_sem]) ?_
  simp -implicitDefEqProofs (maxSteps := 2000000) (disch := first | exact tt_rfl rfl | omega | (simp only [go_sem] <;> omega) | fail) only [go_sem]
  repeat (first | apply Wp.seqA | apply Wp.skipS | apply Wp.blockS | ((first | apply Wp.regS | apply Wp.condV | apply Wp.reg | apply Wp.condW | apply fin_ret); simp -implicitDefEqProofs (maxSteps := 2000000) (disch := first | exact tt_rfl rfl | omega | (simp only [go_sem] <;> omega) | fail) only [go_sem, e] <;> try with_reducible rfl) | apply Wp.block | apply Wp.exitS | apply Wp.retS | apply Wp.exit | apply Wp.ret | apply Wp.skip)
theorem fine_ok (n d : Int) (h : 1 ≤ n ∧ n ≤ 25000000000) (h' : 1 ≤ d ∧ d ≤ 1000000) : lim F 56 [.agg [iv n, iv d]] = some (.bool true, []) := by
  refine lim_by (fn := a56) (k := 1) (res := [.tmp 2]) rfl rfl rfl (by simp -implicitDefEqProofs (maxSteps := 2000000) (disch := first | exact tt_rfl rfl | omega | (simp only [go_sem] <;> omega) | fail) only [go_sem]) ?_
  simp -implicitDefEqProofs (maxSteps := 2000000) (disch := first | exact tt_rfl rfl | omega | (simp only [go_sem] <;> omega) | fail) only [go_sem]
  repeat (first | apply Wp.seqA | apply Wp.skipS | apply Wp.blockS | ((first | apply Wp.regS | apply Wp.condV | apply Wp.reg | apply Wp.condW | apply fin_ret); simp -implicitDefEqProofs (maxSteps := 2000000) (disch := first | exact tt_rfl rfl | omega | (simp only [go_sem] <;> omega) | fail) only [go_sem, gt_iff_lt, show (0 : Int) < n by omega, show n ≤ 34359738368 by omega, show (0 : Int) < d by omega, show d ≤ 1000000 by omega] <;> try with_reducible rfl) | apply Wp.block | apply Wp.exitS | apply Wp.retS | apply Wp.exit | apply Wp.ret | apply Wp.skip)
theorem with1_ok (t : TakeA) (shop : List Int) (ps : List P2) (hp : Picked shop ps) (hl : ps.length ≤ 2) (hs : shop.length ≤ 1000) : lim F 54 [t.av, .list 1 (shop.map fun n => iv n), .list 1 (nsL ps)] = some (.agg [iv t.rat, iv t.step, .own 2 ((wheelT ⟨t, shop, ps⟩).pairs.map PairT.av), iv t.round], []) := by
  have hn := nsL_len ps
  have hsl : (shop.map fun n => iv n).length = shop.length := by simp
  unfold TakeA.av
  refine lim_by (fn := a54) (k := 3) (res := [.cell 6 4 true]) rfl rfl rfl (by simp -implicitDefEqProofs (maxSteps := 2000000) (disch := first | exact tt_rfl rfl | omega | (simp only [go_sem] <;> omega) | fail) only [go_sem]) ?_
  simp -implicitDefEqProofs (maxSteps := 2000000) (disch := first | exact tt_rfl rfl | omega | (simp only [go_sem] <;> omega) | fail) only [go_sem]
  repeat (first | apply Wp.seqA | apply Wp.skipS | apply Wp.blockS | ((first | apply Wp.regS | apply Wp.condV | apply Wp.reg | apply Wp.condW | apply fin_ret); simp -implicitDefEqProofs (maxSteps := 2000000) (disch := first | exact tt_rfl rfl | omega | (simp only [go_sem] <;> omega) | fail) only [go_sem] <;> try with_reducible rfl) | apply Wp.block | apply Wp.exitS | apply Wp.retS | apply Wp.exit | apply Wp.ret | apply Wp.skip)
  apply Wp.loopF ps.length (fun i => ⟨[(1, .list 1 (shop.map fun n => iv n)), (2, .list 1 (nsL ps)), (3, .ptr 192 0 0), (6, .ptr 384 0 0), (7, iv (2 * (i : Int)))], [(192, .box [iv t.rat, iv t.step, .slice 303074 0 i, iv t.round]), (384, .box [iv 0, iv 0, .slice 306146 0 0, iv 0]),
    (303074, .arr 2 (((wheelT ⟨t, shop, ps⟩).pairs.take i).map PairT.av)), (306146, .arr 2 [])], [], 10000000⟩) (fun _ => True)
  · simp -implicitDefEqProofs (maxSteps := 2000000) (disch := first | exact tt_rfl rfl | omega | (simp only [go_sem] <;> omega) | fail) only [go_sem, norm_eq, Ok.some]
    simp
  · trivial
  intro i hi _
  by_cases hlt : i < ps.length
  · have hpi := hp.in (t := t) ps[i] (List.getElem_mem hlt)
    dsimp only at hpi
    have g1 : (shop.map fun n => iv n)[ps[i].1.toNat]? = some (iv (shopAt shop ps[i].1)) := by
      rw [List.getElem?_map, List.getElem?_eq_getElem (by omega)]
      simp [shopAt, List.getElem?_eq_getElem (show ps[i].1.toNat < shop.length by omega)]
    have g2 : (shop.map fun n => iv n)[ps[i].2.toNat]? = some (iv (shopAt shop ps[i].2)) := by
      rw [List.getElem?_map, List.getElem?_eq_getElem (by omega)]
      simp [shopAt, List.getElem?_eq_getElem (show ps[i].2.toNat < shop.length by omega)]
    have d := nsL_at hlt
    have x1 : (nsL ps)[(2 * (i : Int)).toNat]? = some (iv ps[i].1) := by
      have := congrArg (fun l => l[0]?) d
      simpa [show (2 * (i : Int)).toNat = 2 * i by omega] using this
    have x2 : (nsL ps)[(2 * (i : Int) + 1).toNat]? = some (iv ps[i].2) := by
      have := congrArg (fun l => l[1]?) d
      simpa [show (2 * (i : Int) + 1).toNat = 2 * i + 1 by omega] using this
    have hlen : (((wheelT ⟨t, shop, ps⟩).pairs.take i).map PairT.av).length = i := by simp [wheelT]; omega
    have e2 : ((wheelT ⟨t, shop, ps⟩).pairs.take (i + 1)).map PairT.av = ((wheelT ⟨t, shop, ps⟩).pairs.take i).map PairT.av ++ [.agg [iv (shopAt shop ps[i].1), iv (shopAt shop ps[i].2)]] := by
      rw [List.take_succ_eq_append_getElem (by simpa [wheelT] using hlt), List.map_append]
      simp [PairT.av, wheelT]
    generalize ((wheelT ⟨t, shop, ps⟩).pairs.take i).map PairT.av = es at *
    generalize shopAt shop ps[i].1 = s1 at *
    generalize shopAt shop ps[i].2 = s2 at *
    repeat (first | apply Wp.seqA | apply Wp.skipS | apply Wp.blockS | ((first | apply Wp.regS | apply Wp.condV | apply Wp.reg | apply Wp.condW | apply fin_ret); simp -implicitDefEqProofs (maxSteps := 2000000) (disch := first | exact tt_rfl rfl | omega | (simp only [go_sem] <;> omega) | fail) only [go_sem, hn, hsl, hpi, show 2 * (i : Int) + 1 < ((2 * ps.length : Nat) : Int) by omega, x1, x2, g1, g2, hlen] <;> try with_reducible rfl) | apply Wp.block | apply Wp.exitS | apply Wp.retS | apply Wp.exit | apply Wp.ret | apply Wp.skip)
    apply round_next
    · simp -implicitDefEqProofs (maxSteps := 2000000) (disch := first | exact tt_rfl rfl | omega | (simp only [go_sem] <;> omega) | fail) only [go_sem, norm_eq, Ok.some]; with_reducible rfl
    exact ⟨hlt, by rw [e2, show ((i + 1 : Nat) : Int) = (i : Int) + 1 by omega, Int.mul_add]; rfl, trivial⟩
  · obtain rfl : i = ps.length := by omega
    have e3 : (wheelT ⟨t, shop, ps⟩).pairs.take ps.length = (wheelT ⟨t, shop, ps⟩).pairs := List.take_of_length_le (by simp [wheelT])
    have hlen : ((wheelT ⟨t, shop, ps⟩).pairs.map PairT.av).length = ps.length := by simp [wheelT]
    rw [e3]
    generalize (wheelT ⟨t, shop, ps⟩).pairs.map PairT.av = es at *
    repeat (first | apply Wp.seqA | apply Wp.skipS | apply Wp.blockS | ((first | apply Wp.regS | apply Wp.condV | apply Wp.reg | apply Wp.condW | apply fin_ret); simp -implicitDefEqProofs (maxSteps := 2000000) (disch := first | exact tt_rfl rfl | omega | (simp only [go_sem] <;> omega) | fail) only [go_sem, hn, show ¬ 2 * (ps.length : Int) + 1 < ((2 * ps.length : Nat) : Int) by omega, hlen] <;> try with_reducible rfl) | apply Wp.block | apply Wp.exitS | apply Wp.retS | apply Wp.exit | apply Wp.ret | apply Wp.skip)
end Go.Abs
