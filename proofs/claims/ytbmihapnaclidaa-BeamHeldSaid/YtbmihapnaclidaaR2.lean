/-
  Chapter 6: contracts of weights that hang on layers. No condition beyond those that each theorem names.
-/
import Derived.Test.YtbmihapnaclidaaR1
set_option linter.all false
namespace Go.Abs
set_option maxRecDepth 10000
set_option maxHeartbeats 2000000

structure HoldA where
  lo : Int
  hi : Int
  w : Int
def HoldA.av (h : HoldA) : AV := .agg [iv h.lo, iv h.hi, iv h.w]
@[go_sem] theorem holdA_plain (l : List HoldA) : (l.map HoldA.av).all AV.plain = true := by
  simp [HoldA.av, AV.plain, AV.plain1]
abbrev HoldA.on (h : HoldA) (k : Int) : Prop := h.lo ≤ k ∧ k ≤ h.hi

theorem holds_ok (h : HoldA) (k : Int) : lim F 95 [.agg [iv h.lo, iv h.hi, iv h.w], iv k] = some (.bool (decide (h.on k)), []) := by
  by_cases c1 : h.lo ≤ k
  · by_cases c2 : k ≤ h.hi
    · refine lim_by (fn := a95) (k := 2) (res := [.tmp 4]) rfl rfl rfl (by simp -implicitDefEqProofs (maxSteps := 2000000) (disch := first | exact tt_rfl rfl | omega | (simp only [go_sem] <;> omega) | fail) only [go_sem]) ?_
      simp -implicitDefEqProofs (maxSteps := 2000000) (disch := first | exact tt_rfl rfl | omega | (simp only [go_sem] <;> omega) | fail) only [go_sem]
      repeat (first | apply Wp.seqA | apply Wp.skipS | apply Wp.blockS | ((first | apply Wp.regS | apply Wp.condV | apply Wp.reg | apply Wp.condW | apply fin_ret); simp -implicitDefEqProofs (maxSteps := 2000000) (disch := first | exact tt_rfl rfl | omega | (simp only [go_sem] <;> omega) | fail) only [go_sem, c1, c2] <;> try with_reducible rfl) | apply Wp.block | apply Wp.exitS | apply Wp.retS | apply Wp.exit | apply Wp.ret | apply Wp.skip)
      rw [decide_eq_true ⟨c1, c2⟩]
    · refine lim_by (fn := a95) (k := 2) (res := [.tmp 4]) rfl rfl rfl (by simp -implicitDefEqProofs (maxSteps := 2000000) (disch := first | exact tt_rfl rfl | omega | (simp only [go_sem] <;> omega) | fail) only [go_sem]) ?_
      simp -implicitDefEqProofs (maxSteps := 2000000) (disch := first | exact tt_rfl rfl | omega | (simp only [go_sem] <;> omega) | fail) only [go_sem]
      repeat (first | apply Wp.seqA | apply Wp.skipS | apply Wp.blockS | ((first | apply Wp.regS | apply Wp.condV | apply Wp.reg | apply Wp.condW | apply fin_ret); simp -implicitDefEqProofs (maxSteps := 2000000) (disch := first | exact tt_rfl rfl | omega | (simp only [go_sem] <;> omega) | fail) only [go_sem, c1, c2] <;> try with_reducible rfl) | apply Wp.block | apply Wp.exitS | apply Wp.retS | apply Wp.exit | apply Wp.ret | apply Wp.skip)
      rw [decide_eq_false fun h => c2 h.2]
  · refine lim_by (fn := a95) (k := 2) (res := [.tmp 4]) rfl rfl rfl (by simp -implicitDefEqProofs (maxSteps := 2000000) (disch := first | exact tt_rfl rfl | omega | (simp only [go_sem] <;> omega) | fail) only [go_sem]) ?_
    simp -implicitDefEqProofs (maxSteps := 2000000) (disch := first | exact tt_rfl rfl | omega | (simp only [go_sem] <;> omega) | fail) only [go_sem]
    repeat (first | apply Wp.seqA | apply Wp.skipS | apply Wp.blockS | ((first | apply Wp.regS | apply Wp.condV | apply Wp.reg | apply Wp.condW | apply fin_ret); simp -implicitDefEqProofs (maxSteps := 2000000) (disch := first | exact tt_rfl rfl | omega | (simp only [go_sem] <;> omega) | fail) only [go_sem, c1] <;> try with_reducible rfl) | apply Wp.block | apply Wp.exitS | apply Wp.retS | apply Wp.exit | apply Wp.ret | apply Wp.skip)
    rw [decide_eq_false fun h => c1 h.1]
theorem unc1_ok (h : HoldA) (k : Int) : lim F 118 [.agg [iv h.lo, iv h.hi, iv h.w], .iptr (.agg [iv k]) 0] = some (.bool (decide (h.on k)), []) := by
  have hk := holds_ok h k
  refine lim_by (fn := a118) (k := 2) (res := [.tmp 3]) rfl rfl rfl (by simp -implicitDefEqProofs (maxSteps := 2000000) (disch := first | exact tt_rfl rfl | omega | (simp only [go_sem] <;> omega) | fail) only [go_sem]) ?_
  simp -implicitDefEqProofs (maxSteps := 2000000) (disch := first | exact tt_rfl rfl | omega | (simp only [go_sem] <;> omega) | fail) only [go_sem]
  repeat (first | apply Wp.seqA | apply Wp.skipS | apply Wp.blockS | ((first | apply Wp.regS | apply Wp.condV | apply Wp.reg | apply Wp.condW | apply fin_ret); simp -implicitDefEqProofs (maxSteps := 2000000) (disch := first | exact tt_rfl rfl | omega | (simp only [go_sem] <;> omega) | fail) only [go_sem, hk] <;> try with_reducible rfl) | apply Wp.block | apply Wp.exitS | apply Wp.retS | apply Wp.exit | apply Wp.ret | apply Wp.skip)
theorem wei1_ok (h : HoldA) (k : Int) : lim F 94 [.agg [iv h.lo, iv h.hi, iv h.w], .iptr (.agg [iv k]) 0] = some (.bool (decide (¬ h.on k)), []) := by
  have hk := holds_ok h k
  by_cases c : h.on k
  · rw [decide_eq_true c] at hk
    refine lim_by (fn := a94) (k := 2) (res := [.tmp 3]) rfl rfl rfl (by simp -implicitDefEqProofs (maxSteps := 2000000) (disch := first | exact tt_rfl rfl | omega | (simp only [go_sem] <;> omega) | fail) only [go_sem]) ?_
    simp -implicitDefEqProofs (maxSteps := 2000000) (disch := first | exact tt_rfl rfl | omega | (simp only [go_sem] <;> omega) | fail) only [go_sem]
    repeat (first | apply Wp.seqA | apply Wp.skipS | apply Wp.blockS | ((first | apply Wp.regS | apply Wp.condV | apply Wp.reg | apply Wp.condW | apply fin_ret); simp -implicitDefEqProofs (maxSteps := 2000000) (disch := first | exact tt_rfl rfl | omega | (simp only [go_sem] <;> omega) | fail) only [go_sem, hk] <;> try with_reducible rfl) | apply Wp.block | apply Wp.exitS | apply Wp.retS | apply Wp.exit | apply Wp.ret | apply Wp.skip)
    rw [decide_eq_false fun h => h c]
  · rw [decide_eq_false c] at hk
    refine lim_by (fn := a94) (k := 2) (res := [.tmp 3]) rfl rfl rfl (by simp -implicitDefEqProofs (maxSteps := 2000000) (disch := first | exact tt_rfl rfl | omega | (simp only [go_sem] <;> omega) | fail) only [go_sem]) ?_
    simp -implicitDefEqProofs (maxSteps := 2000000) (disch := first | exact tt_rfl rfl | omega | (simp only [go_sem] <;> omega) | fail) only [go_sem]
    repeat (first | apply Wp.seqA | apply Wp.skipS | apply Wp.blockS | ((first | apply Wp.regS | apply Wp.condV | apply Wp.reg | apply Wp.condW | apply fin_ret); simp -implicitDefEqProofs (maxSteps := 2000000) (disch := first | exact tt_rfl rfl | omega | (simp only [go_sem] <;> omega) | fail) only [go_sem, hk] <;> try with_reducible rfl) | apply Wp.block | apply Wp.exitS | apply Wp.retS | apply Wp.exit | apply Wp.ret | apply Wp.skip)
    rw [decide_eq_true c]
theorem wei2_ok (a b : HoldA) (h1 : 0 ≤ a.lo ∧ a.lo ≤ 10000) (h2 : 0 ≤ b.lo ∧ b.lo ≤ 10000) : lim F 97 [.agg [iv a.lo, iv a.hi, iv a.w], .agg [iv b.lo, iv b.hi, iv b.w]] = some (iv (a.lo - b.lo), []) := by
  refine lim_by (fn := a97) (k := 2) (res := [.tmp 4]) rfl rfl rfl (by simp -implicitDefEqProofs (maxSteps := 2000000) (disch := first | exact tt_rfl rfl | omega | (simp only [go_sem] <;> omega) | fail) only [go_sem]) ?_
  simp -implicitDefEqProofs (maxSteps := 2000000) (disch := first | exact tt_rfl rfl | omega | (simp only [go_sem] <;> omega) | fail) only [go_sem]
  repeat (first | apply Wp.seqA | apply Wp.skipS | apply Wp.blockS | ((first | apply Wp.regS | apply Wp.condV | apply Wp.reg | apply Wp.condW | apply fin_ret); simp -implicitDefEqProofs (maxSteps := 2000000) (disch := first | exact tt_rfl rfl | omega | (simp only [go_sem] <;> omega) | fail) only [go_sem] <;> try with_reducible rfl) | apply Wp.block | apply Wp.exitS | apply Wp.retS | apply Wp.exit | apply Wp.ret | apply Wp.skip)

theorem index_holds (l : List HoldA) (p : HoldA → Bool) (f : Nat) (x : AV) (hl : l.length < 1000000000) (hp : ∀ n ∈ l, lim F f [.agg [iv n.lo, iv n.hi, iv n.w], .iptr x 0] = some (.bool (p n), [])) :
    lim F 119 [.list 3 (l.map HoldA.av), .func f [.iptr x 0]] = some (iv (idxF p l), []) := by
  refine lim_by (fn := a119) (k := 2) (res := [.tmp 4]) rfl rfl rfl (by simp -implicitDefEqProofs (maxSteps := 2000000) (disch := first | exact tt_rfl rfl | omega | (simp only [go_sem] <;> omega) | fail) only [go_sem]) ?_
  simp -implicitDefEqProofs (maxSteps := 2000000) (disch := first | exact tt_rfl rfl | omega | (simp only [go_sem] <;> omega) | fail) only [go_sem]
  repeat (first | apply Wp.seqA | apply Wp.skipS | apply Wp.blockS | ((first | apply Wp.regS | apply Wp.condV | apply Wp.reg | apply Wp.condW | apply fin_ret); simp -implicitDefEqProofs (maxSteps := 2000000) (disch := first | exact tt_rfl rfl | omega | (simp only [go_sem] <;> omega) | fail) only [go_sem] <;> try with_reducible rfl) | apply Wp.block | apply Wp.exitS | apply Wp.retS | apply Wp.exit | apply Wp.ret | apply Wp.skip)
  apply Wp.loopF l.length (fun i => ⟨[(0, .list 3 (l.map HoldA.av)), (1, .func f [.iptr x 0]), (7, iv l.length), (8, iv i)], [], [], 10000000⟩) (fun i => ∀ j (hj : j < l.length), j < i → p l[j] = false)
  · simp -implicitDefEqProofs (maxSteps := 2000000) (disch := first | exact tt_rfl rfl | omega | (simp only [go_sem] <;> omega) | fail) only [go_sem, norm_eq, Ok.some]
    rfl
  · intro j hj h; omega
  intro i hi hn
  by_cases h : i < l.length
  · have hc := hp l[i] (List.getElem_mem h)
    cases hb : p l[i] with
    | true =>
      rw [hb] at hc
      repeat (first | apply Wp.seqA | apply Wp.skipS | apply Wp.blockS | ((first | apply Wp.regS | apply Wp.condV | apply Wp.reg | apply Wp.condW | apply fin_ret); simp -implicitDefEqProofs (maxSteps := 2000000) (disch := first | exact tt_rfl rfl | omega | (simp only [go_sem] <;> omega) | fail) only [go_sem, h, List.getElem?_map, List.getElem?_eq_getElem h, Option.map_some, hc, Int.ofNat_lt, HoldA.av.eq_1] <;> try with_reducible rfl) | apply Wp.block | apply Wp.exitS | apply Wp.retS | apply Wp.exit | apply Wp.ret | apply Wp.skip)
      rw [idxF_at h hb hn]
    | false =>
      rw [hb] at hc
      repeat (first | apply Wp.seqA | apply Wp.skipS | apply Wp.blockS | ((first | apply Wp.regS | apply Wp.condV | apply Wp.reg | apply Wp.condW | apply fin_ret); simp -implicitDefEqProofs (maxSteps := 2000000) (disch := first | exact tt_rfl rfl | omega | (simp only [go_sem] <;> omega) | fail) only [go_sem, h, List.getElem?_map, List.getElem?_eq_getElem h, Option.map_some, hc, Int.ofNat_lt, HoldA.av.eq_1] <;> try with_reducible rfl) | apply Wp.block | apply Wp.exitS | apply Wp.retS | apply Wp.exit | apply Wp.ret | apply Wp.skip)
      apply round_next
      · simp -implicitDefEqProofs (maxSteps := 2000000) (disch := first | exact tt_rfl rfl | omega | (simp only [go_sem] <;> omega) | fail) only [go_sem, norm_eq, Ok.some]; with_reducible rfl
      refine ⟨h, by simp, fun j hj hji => ?_⟩
      by_cases e : j = i
      · subst e; exact hb
      · exact hn j hj (by omega)
  · repeat (first | apply Wp.seqA | apply Wp.skipS | apply Wp.blockS | ((first | apply Wp.regS | apply Wp.condV | apply Wp.reg | apply Wp.condW | apply fin_ret); simp -implicitDefEqProofs (maxSteps := 2000000) (disch := first | exact tt_rfl rfl | omega | (simp only [go_sem] <;> omega) | fail) only [go_sem, h, Int.ofNat_lt] <;> try with_reducible rfl) | apply Wp.block | apply Wp.exitS | apply Wp.retS | apply Wp.exit | apply Wp.ret | apply Wp.skip)
    rw [idxF_no fun j hj => hn j hj (by omega)]

theorem contains_holds (l : List HoldA) (p : HoldA → Bool) (f : Nat) (x : AV) (hl : l.length < 1000000000) (hp : ∀ n ∈ l, lim F f [.agg [iv n.lo, iv n.hi, iv n.w], .iptr x 0] = some (.bool (p n), [])) :
    lim F 117 [.list 3 (l.map HoldA.av), .func f [.iptr x 0]] = some (.bool (l.any p), []) := by
  have h := index_holds l p f x hl hp
  refine lim_by (fn := a117) (k := 2) (res := [.tmp 4]) rfl rfl rfl (by simp -implicitDefEqProofs (maxSteps := 2000000) (disch := first | exact tt_rfl rfl | omega | (simp only [go_sem] <;> omega) | fail) only [go_sem]) ?_
  simp -implicitDefEqProofs (maxSteps := 2000000) (disch := first | exact tt_rfl rfl | omega | (simp only [go_sem] <;> omega) | fail) only [go_sem]
  repeat (first | apply Wp.seqA | apply Wp.skipS | apply Wp.blockS | ((first | apply Wp.regS | apply Wp.condV | apply Wp.reg | apply Wp.condW | apply fin_ret); simp -implicitDefEqProofs (maxSteps := 2000000) (disch := first | exact tt_rfl rfl | omega | (simp only [go_sem] <;> omega) | fail) only [go_sem, h, idxF_ge] <;> try with_reducible rfl) | apply Wp.block | apply Wp.exitS | apply Wp.retS | apply Wp.exit | apply Wp.ret | apply Wp.skip)

/-- some weight can hang on a layer -/
def someOn (l : List HoldA) (k : Int) : Bool := l.any fun h => decide (h.on k)
/-- how many layers from the outermost one on are covered -/
def covered (l : List HoldA) (L : Int) : Nat := firstP (fun j => !someOn l (L - 1 - j)) L.toNat
theorem covered_le (l : List HoldA) (L : Int) : covered l L ≤ L.toNat := firstP_le _ _

theorem uncovered_ok (l : List HoldA) (L : Int) (hl : l.length < 1000000) (h1 : 1 ≤ L) (h2 : L ≤ 2000) : lim F 91 [.list 3 (l.map HoldA.av), iv L] = some (iv (if covered l L < L.toNat then L - 1 - covered l L else -1), []) := by
  refine lim_by (fn := a91) (k := 2) (res := [.tmp 4]) rfl rfl rfl (by simp -implicitDefEqProofs (maxSteps := 2000000) (disch := first | exact tt_rfl rfl | omega | (simp only [go_sem] <;> omega) | fail) only [go_sem]) ?_
  simp -implicitDefEqProofs (maxSteps := 2000000) (disch := first | exact tt_rfl rfl | omega | (simp only [go_sem] <;> omega) | fail) only [go_sem]
  repeat (first | apply Wp.seqA | apply Wp.skipS | apply Wp.blockS | ((first | apply Wp.regS | apply Wp.condV | apply Wp.reg | apply Wp.condW | apply fin_ret); simp -implicitDefEqProofs (maxSteps := 2000000) (disch := first | exact tt_rfl rfl | omega | (simp only [go_sem] <;> omega) | fail) only [go_sem] <;> try with_reducible rfl) | apply Wp.block | apply Wp.exitS | apply Wp.retS | apply Wp.exit | apply Wp.ret | apply Wp.skip)
  apply Wp.loopF L.toNat (fun i => ⟨[(0, .list 3 (l.map HoldA.av)), (1, iv L), (7, iv L), (8, iv i)], [], [], 10000000⟩) (fun i => ∀ j, j < i → (!someOn l (L - 1 - j)) = false)
  · simp -implicitDefEqProofs (maxSteps := 2000000) (disch := first | exact tt_rfl rfl | omega | (simp only [go_sem] <;> omega) | fail) only [go_sem, norm_eq, Ok.some]
    rfl
  · intro j h; omega
  intro i hi hn
  by_cases h : (i : Int) < L
  · have hc := contains_holds l (fun h => decide (h.on (L - 1 - i))) 118 (.agg [iv (L - 1 - i)]) (by omega) fun n _ => unc1_ok n _
    change lim F _ _ = some (AV.bool (someOn l (L - 1 - i)), []) at hc
    cases hb : someOn l (L - 1 - i) with
    | true =>
      rw [hb] at hc
      repeat (first | apply Wp.seqA | apply Wp.skipS | apply Wp.blockS | ((first | apply Wp.regS | apply Wp.condV | apply Wp.reg | apply Wp.condW | apply fin_ret); simp -implicitDefEqProofs (maxSteps := 2000000) (disch := first | exact tt_rfl rfl | omega | (simp only [go_sem] <;> omega) | fail) only [go_sem, h, hc] <;> try with_reducible rfl) | apply Wp.block | apply Wp.exitS | apply Wp.retS | apply Wp.exit | apply Wp.ret | apply Wp.skip)
      apply round_next
      · simp -implicitDefEqProofs (maxSteps := 2000000) (disch := first | exact tt_rfl rfl | omega | (simp only [go_sem] <;> omega) | fail) only [go_sem, norm_eq, Ok.some]; with_reducible rfl
      refine ⟨by omega, by simp, fun j hji => ?_⟩
      by_cases e : j = i
      · subst e; rw [hb]; rfl
      · exact hn j (by omega)
    | false =>
      rw [hb] at hc
      have e : covered l L = i := firstP_eq (by omega) hn fun _ => by rw [hb]; rfl
      rw [e, if_pos (by omega)]
      repeat (first | apply Wp.seqA | apply Wp.skipS | apply Wp.blockS | ((first | apply Wp.regS | apply Wp.condV | apply Wp.reg | apply Wp.condW | apply fin_ret); simp -implicitDefEqProofs (maxSteps := 2000000) (disch := first | exact tt_rfl rfl | omega | (simp only [go_sem] <;> omega) | fail) only [go_sem, h, hc] <;> try with_reducible rfl) | apply Wp.block | apply Wp.exitS | apply Wp.retS | apply Wp.exit | apply Wp.ret | apply Wp.skip)
  · obtain rfl : i = L.toNat := by omega
    have e : covered l L = L.toNat := firstP_eq (by omega) hn fun h => by omega
    rw [e, if_neg (by omega)]
    repeat (first | apply Wp.seqA | apply Wp.skipS | apply Wp.blockS | ((first | apply Wp.regS | apply Wp.condV | apply Wp.reg | apply Wp.condW | apply fin_ret); simp -implicitDefEqProofs (maxSteps := 2000000) (disch := first | exact tt_rfl rfl | omega | (simp only [go_sem] <;> omega) | fail) only [go_sem, h] <;> try with_reducible rfl) | apply Wp.block | apply Wp.exitS | apply Wp.retS | apply Wp.exit | apply Wp.ret | apply Wp.skip)

/-- the first one of those that hold longest -/
def minH (b : HoldA) (l : List HoldA) : HoldA := l.foldl (fun b h => if h.lo < b.lo then h else b) b

theorem minFunc_ok (h : HoldA) (l : List HoldA) (hl : l.length < 1000000) (hp : ∀ n ∈ h :: l, 0 ≤ n.lo ∧ n.lo ≤ 10000) : lim F 96 [.list 3 ((h :: l).map HoldA.av), .func 97 []] = some (.agg [iv (minH h l).lo, iv (minH h l).hi, iv (minH h l).w], []) := by
  have hb : ∀ i, 0 ≤ (minH h (l.take i)).lo ∧ (minH h (l.take i)).lo ≤ 10000 := by
    intro i
    induction i with
    | zero => simpa [minH] using hp h (by simp)
    | succ i ih =>
      by_cases hi : i < l.length
      · rw [List.take_succ_eq_append_getElem hi]
        unfold minH at ih ⊢
        rw [List.foldl_append]
        simp only [List.foldl_cons, List.foldl_nil]
        split
        · exact hp _ (List.mem_cons_of_mem _ (List.getElem_mem hi))
        · exact ih
      · rw [List.take_of_length_le (by omega)] at ih ⊢
        exact ih
  have hlen : ((h :: l).map HoldA.av).length = l.length + 1 := by simp
  have h0 : ((h :: l).map HoldA.av)[0]? = some (.agg [iv h.lo, iv h.hi, iv h.w]) := rfl
  refine lim_by (fn := a96) (k := 2) (res := [.cell 4 3 true]) rfl rfl rfl (by simp -implicitDefEqProofs (maxSteps := 2000000) (disch := first | exact tt_rfl rfl | omega | (simp only [go_sem] <;> omega) | fail) only [go_sem]) ?_
  simp -implicitDefEqProofs (maxSteps := 2000000) (disch := first | exact tt_rfl rfl | omega | (simp only [go_sem] <;> omega) | fail) only [go_sem]
  have hlen' : (AV.agg [iv h.lo, iv h.hi, iv h.w] :: l.map HoldA.av).length = l.length + 1 := by simp
  repeat (first | apply Wp.seqA | apply Wp.skipS | apply Wp.blockS | ((first | apply Wp.regS | apply Wp.condV | apply Wp.reg | apply Wp.condW | apply fin_ret); simp -implicitDefEqProofs (maxSteps := 2000000) (disch := first | exact tt_rfl rfl | omega | (simp only [go_sem] <;> omega) | fail) only [go_sem, hlen, h0, HoldA.av.eq_1] <;> try with_reducible rfl) | apply Wp.block | apply Wp.exitS | apply Wp.retS | apply Wp.exit | apply Wp.ret | apply Wp.skip)
  apply Wp.loopF l.length (fun i => ⟨[(0, .list 3 (.agg [iv h.lo, iv h.hi, iv h.w] :: l.map HoldA.av)), (1, .func 97 []), (4, .ptr 256 0 0), (5, .ptr 320 0 0), (6, iv ((i + 1 : Nat) : Int))], [(256, .box [iv 0, iv 0, iv 0]), (320, .box [iv (minH h (l.take i)).lo, iv (minH h (l.take i)).hi, iv (minH h (l.take i)).w])], [], 10000000⟩) (fun _ => True)
  · simp -implicitDefEqProofs (maxSteps := 2000000) (disch := first | exact tt_rfl rfl | omega | (simp only [go_sem] <;> omega) | fail) only [go_sem, norm_eq, Ok.some]
    rfl
  · trivial
  intro i hi _
  by_cases hlt : i < l.length
  · have g1 : (AV.agg [iv h.lo, iv h.hi, iv h.w] :: l.map HoldA.av)[i + 1]? = some (.agg [iv l[i].lo, iv l[i].hi, iv l[i].w]) := by
      rw [List.getElem?_cons_succ, List.getElem?_map, List.getElem?_eq_getElem hlt]; rfl
    have hm := hb i
    have hm' := hp l[i] (List.mem_cons_of_mem _ (List.getElem_mem hlt))
    have e : minH h (l.take (i + 1)) = if l[i].lo < (minH h (l.take i)).lo then l[i] else minH h (l.take i) := by
      rw [List.take_succ_eq_append_getElem hlt]; unfold minH; rw [List.foldl_append]; rfl
    rw [e]
    generalize minH h (l.take i) = m at *
    have hw := wei2_ok l[i] m hm' hm
    have hi1 : ((i + 1 : Nat) : Int) < ((l.length + 1 : Nat) : Int) := by omega
    have hi0 : (0 : Int) ≤ ((i + 1 : Nat) : Int) := by omega
    by_cases hc : l[i].lo < m.lo
    · rw [if_pos hc]
      repeat (first | apply Wp.seqA | apply Wp.skipS | apply Wp.blockS | ((first | apply Wp.regS | apply Wp.condV | apply Wp.reg | apply Wp.condW | apply fin_ret); simp -implicitDefEqProofs (maxSteps := 2000000) (disch := first | exact tt_rfl rfl | omega | (simp only [go_sem] <;> omega) | fail) only [go_sem, hlen', hi1, g1, hw, show l[i].lo - m.lo < 0 by omega] <;> try with_reducible rfl) | apply Wp.block | apply Wp.exitS | apply Wp.retS | apply Wp.exit | apply Wp.ret | apply Wp.skip)
      apply round_next
      · simp -implicitDefEqProofs (maxSteps := 2000000) (disch := first | exact tt_rfl rfl | omega | (simp only [go_sem] <;> omega) | fail) only [go_sem, norm_eq, Ok.some]; with_reducible rfl
      exact ⟨hlt, by simp, trivial⟩
    · rw [if_neg hc]
      repeat (first | apply Wp.seqA | apply Wp.skipS | apply Wp.blockS | ((first | apply Wp.regS | apply Wp.condV | apply Wp.reg | apply Wp.condW | apply fin_ret); simp -implicitDefEqProofs (maxSteps := 2000000) (disch := first | exact tt_rfl rfl | omega | (simp only [go_sem] <;> omega) | fail) only [go_sem, hlen', hi1, g1, hw, show ¬ l[i].lo - m.lo < 0 by omega] <;> try with_reducible rfl) | apply Wp.block | apply Wp.exitS | apply Wp.retS | apply Wp.exit | apply Wp.ret | apply Wp.skip)
      apply round_next
      · simp -implicitDefEqProofs (maxSteps := 2000000) (disch := first | exact tt_rfl rfl | omega | (simp only [go_sem] <;> omega) | fail) only [go_sem, norm_eq, Ok.some]; with_reducible rfl
      exact ⟨hlt, by simp, trivial⟩
  · obtain rfl : i = l.length := by omega
    rw [List.take_length]
    repeat (first | apply Wp.seqA | apply Wp.skipS | apply Wp.blockS | ((first | apply Wp.regS | apply Wp.condV | apply Wp.reg | apply Wp.condW | apply fin_ret); simp -implicitDefEqProofs (maxSteps := 2000000) (disch := first | exact tt_rfl rfl | omega | (simp only [go_sem] <;> omega) | fail) only [go_sem, hlen', show ¬ ((l.length + 1 : Nat) : Int) < ((l.length + 1 : Nat) : Int) by omega] <;> try with_reducible rfl) | apply Wp.block | apply Wp.exitS | apply Wp.retS | apply Wp.exit | apply Wp.ret | apply Wp.skip)

theorem isNilV_list (sz : Nat) (a : AV) (l : List AV) : isNilV false (.list sz (a :: l)) = some ⟨.bool false, [], []⟩ := rfl
theorem clone_ok (h : HoldA) (l : List HoldA) (hn : l.length < 1000000) : lim F 93 [.list 3 ((h :: l).map HoldA.av)] = some (.own 3 ((h :: l).map HoldA.av), []) := by
  rw [List.map_cons]
  refine lim_by (fn := a93) (k := 1) (res := [.tmp 2]) rfl rfl rfl (by simp -implicitDefEqProofs (maxSteps := 2000000) (disch := first | exact tt_rfl rfl | omega | (simp only [go_sem] <;> omega) | fail) only [go_sem]) ?_
  simp -implicitDefEqProofs (maxSteps := 2000000) (disch := first | exact tt_rfl rfl | omega | (simp only [go_sem] <;> omega) | fail) only [go_sem]
  repeat (first | apply Wp.seqA | apply Wp.skipS | apply Wp.blockS | ((first | apply Wp.regS | apply Wp.condV | apply Wp.reg | apply Wp.condW | apply fin_ret); simp -implicitDefEqProofs (maxSteps := 2000000) (disch := first | exact tt_rfl rfl | omega | (simp only [go_sem] <;> omega) | fail) only [go_sem, isNilV_list] <;> try with_reducible rfl) | apply Wp.block | apply Wp.exitS | apply Wp.retS | apply Wp.exit | apply Wp.ret | apply Wp.skip)

def clearR (sz : Nat) (z : AV) (id off len : Nat) : Row → Option Eff
  | .arr sz' es => if len = 0 then some ⟨.tuple [], [], [id]⟩ else if sz' = sz ∧ off + len ≤ es.length then some ⟨.tuple [], [(id, some (.arr sz (es.take off ++ List.replicate len z ++ es.drop (off + len))))], [id]⟩ else none
  | _ => none
def clearV (R : Nat → Option Row) (sz : Nat) (z : AV) : AV → Option Eff
  | .slice id off len => obind (R id) (clearR sz z id off len)
  | _ => none
@[go_sem] theorem ev_clear (call : CallF) (s : Nat) (g : AOpd → Option AV) (R : Nat → Option Row) (sz : Nat) (z : AV) (x : AOpd) : evalOp call s g R (.clear sz z x) = obind (g x) (clearV R sz z) := by
  simp only [evalOp]
  cases g x with
  | none => rfl
  | some v =>
    cases v <;> try rfl
    rename_i id off len
    simp only [clearV, obind]
    cases R id with
    | none => rfl
    | some r => cases r <;> rfl
@[go_sem] theorem clearV_slice (R : Nat → Option Row) (sz : Nat) (z : AV) (id off len : Nat) : clearV R sz z (.slice id off len) = obind (R id) (clearR sz z id off len) := rfl
@[go_sem] theorem clearR_arr (sz : Nat) (z : AV) (id off len : Nat) (es : List AV) (h0 : len ≠ 0) (hl : off + len ≤ es.length) : clearR sz z id off len (.arr sz es) = some ⟨.tuple [], [(id, some (.arr sz (es.take off ++ List.replicate len z ++ es.drop (off + len))))], [id]⟩ := by
  simp [clearR, h0, hl]

theorem delete_ok (l : List HoldA) (p : HoldA → Bool) (f : Nat) (x : AV) (hl : l.length < 1000000) (hp : ∀ n ∈ l, lim F f [.agg [iv n.lo, iv n.hi, iv n.w], .iptr x 0] = some (.bool (!p n), [])) :
    lim F 92 [.own 3 (l.map HoldA.av), .func f [.iptr x 0]] = some (.own 3 ((l.filter p).map HoldA.av), []) := by
  have hi := index_holds l (fun n => !p n) f x (by omega) hp
  refine lim_by (fn := a92) (k := 2) (res := [.tmp 4]) rfl rfl rfl (by simp -implicitDefEqProofs (maxSteps := 2000000) (disch := first | exact tt_rfl rfl | omega | (simp only [go_sem] <;> omega) | fail) only [go_sem]) ?_
  simp -implicitDefEqProofs (maxSteps := 2000000) (disch := first | exact tt_rfl rfl | omega | (simp only [go_sem] <;> omega) | fail) only [go_sem]
  by_cases hno : idxF (fun n => !p n) l = -1
  · have ef : l.filter p = l := by
      rw [List.filter_eq_self]
      intro a ha
      unfold idxF at hno
      split at hno
      · omega
      · rename_i h
        cases hpa : p a with
        | true => rfl
        | false => exact absurd (List.any_eq_true.2 ⟨a, ha, by rw [hpa]; rfl⟩) h
    rw [ef]
    repeat (first | apply Wp.seqA | apply Wp.skipS | apply Wp.blockS | ((first | apply Wp.regS | apply Wp.condV | apply Wp.reg | apply Wp.condW | apply fin_ret); simp -implicitDefEqProofs (maxSteps := 2000000) (disch := first | exact tt_rfl rfl | omega | (simp only [go_sem] <;> omega) | fail) only [go_sem, hi, hno] <;> try with_reducible rfl) | apply Wp.block | apply Wp.exitS | apply Wp.retS | apply Wp.exit | apply Wp.ret | apply Wp.skip)
  · have hany : l.any (fun n => !p n) = true := by
      unfold idxF at hno
      split at hno
      · assumption
      · exact absurd rfl hno
    have hk : idxF (fun n => !p n) l = (l.findIdx (fun n => !p n) : Nat) := by unfold idxF; rw [if_pos hany]
    have hkl : l.findIdx (fun n => !p n) < l.length := List.findIdx_lt_length.2 (by
      obtain ⟨a, ha, hpa⟩ := List.any_eq_true.1 hany
      exact ⟨a, ha, hpa⟩)
    have hpre : (l.take (l.findIdx (fun n => !p n))).filter p = l.take (l.findIdx (fun n => !p n)) := by
      rw [List.filter_eq_self]
      intro a ha
      obtain ⟨j, hj, rfl⟩ := List.getElem_of_mem ha
      rw [List.length_take] at hj
      have := List.not_of_lt_findIdx (p := fun n => !p n) (xs := l) (i := j) (by omega)
      simpa using this
    have hat : p (l[l.findIdx (fun n => !p n)]) = false := by
      have := List.findIdx_getElem (p := fun n => !p n) (w := hkl)
      simpa using this
    rw [hk] at hi
    generalize l.findIdx (fun n => !p n) = k0 at *
    have s0 : (l.take (k0 + 1)).filter p = l.take k0 := by
      rw [List.take_succ_eq_append_getElem hkl, List.filter_append, hpre]
      simp [hat]
    repeat (first | apply Wp.seqA | apply Wp.skipS | apply Wp.blockS | ((first | apply Wp.regS | apply Wp.condV | apply Wp.reg | apply Wp.condW | apply fin_ret); simp -implicitDefEqProofs (maxSteps := 2000000) (disch := first | exact tt_rfl rfl | omega | (simp only [go_sem] <;> omega) | fail) only [go_sem, hi, show ¬ (k0 : Int) = -1 by omega] <;> try with_reducible rfl) | apply Wp.block | apply Wp.exitS | apply Wp.retS | apply Wp.exit | apply Wp.ret | apply Wp.skip)
    apply Wp.loopN l.length (fun i fr => ∃ (c j : Nat) (hs : List HoldA), fr = ⟨[(0, .slice 0 0 l.length), (1, .func f [.iptr x 0]), (5, iv c), (6, iv j)], [(0, .arr 3 (hs.map HoldA.av))], [], 10000000⟩ ∧
      j = k0 + 1 + i ∧ c < j ∧ j ≤ l.length ∧ hs.length = l.length ∧ hs.take c = (l.take j).filter p ∧ hs.drop j = l.drop j)
    · simp -implicitDefEqProofs (maxSteps := 2000000) (disch := first | exact tt_rfl rfl | omega | (simp only [go_sem] <;> omega) | fail) only [go_sem, norm_eq, Ok.some]
      exact ⟨k0, k0 + 1, l, by simp, rfl, by omega, by omega, rfl, s0.symm, rfl⟩
    rintro i fr hiN ⟨c, j, hs, rfl, ej, hcj, hjl, hes, hF, hD⟩
    have hlen : (hs.map HoldA.av).length = l.length := by simpa using hes
    by_cases hlt : j < l.length
    · have hv := hp l[j] (List.getElem_mem hlt)
      have g0 : hs[j]? = some l[j] := by
        have : (hs.drop j)[0]? = (l.drop j)[0]? := by rw [hD]
        rw [List.getElem?_drop, List.getElem?_drop, Nat.add_zero, List.getElem?_eq_getElem hlt] at this
        exact this
      have g1 : (hs.map HoldA.av)[j]? = some (.agg [iv l[j].lo, iv l[j].hi, iv l[j].w]) := by rw [List.getElem?_map, g0]; rfl
      have hD' : hs.drop (j + 1) = l.drop (j + 1) := by
        rw [← List.drop_drop, hD, List.drop_drop]
      have ef : (l.take (j + 1)).filter p = (l.take j).filter p ++ (if p l[j] then [l[j]] else []) := by
        rw [List.take_succ_eq_append_getElem hlt, List.filter_append]
        cases hpj : p l[j] <;> simp [hpj]
      cases hpj : p l[j] with
      | true =>
        rw [hpj] at hv ef
        have hc : c < hs.length := by omega
        have g2 : (hs.map HoldA.av)[c]? = some (.agg [iv hs[c].lo, iv hs[c].hi, iv hs[c].w]) := by rw [List.getElem?_map, List.getElem?_eq_getElem hc]; rfl
        have eset : (hs.map HoldA.av).set c (.agg [iv l[j].lo, iv l[j].hi, iv l[j].w]) = (hs.set c l[j]).map HoldA.av := by rw [List.map_set]; rfl
        repeat (first | apply Wp.seqA | apply Wp.skipS | apply Wp.blockS | ((first | apply Wp.regS | apply Wp.condV | apply Wp.reg | apply Wp.condW | apply fin_ret); simp -implicitDefEqProofs (maxSteps := 2000000) (disch := first | exact tt_rfl rfl | omega | (simp only [go_sem] <;> omega) | fail) only [go_sem, show (j : Int) < l.length by omega, hlen, g1, g2, hv, show c < l.length by omega] <;> try with_reducible rfl) | apply Wp.block | apply Wp.exitS | apply Wp.retS | apply Wp.exit | apply Wp.ret | apply Wp.skip)
        apply round_next (Q := fun _ _ => False)
        · simp -implicitDefEqProofs (maxSteps := 2000000) (disch := first | exact tt_rfl rfl | omega | (simp only [go_sem] <;> omega) | fail) only [go_sem, norm_eq, Ok.some]; with_reducible rfl
        refine ⟨by omega, c + 1, j + 1, hs.set c l[j], by rw [← eset]; simp, by omega, by omega, by omega, by simpa using hes, ?_, ?_⟩
        · rw [ef, if_pos rfl, ← hF, List.take_succ_eq_append_getElem (by simpa using hc)]
          rw [List.getElem_set_self, List.take_set_of_le (by omega)]
        · rw [List.drop_set_of_lt (by omega), hD']
      | false =>
        rw [hpj] at hv ef
        repeat (first | apply Wp.seqA | apply Wp.skipS | apply Wp.blockS | ((first | apply Wp.regS | apply Wp.condV | apply Wp.reg | apply Wp.condW | apply fin_ret); simp -implicitDefEqProofs (maxSteps := 2000000) (disch := first | exact tt_rfl rfl | omega | (simp only [go_sem] <;> omega) | fail) only [go_sem, show (j : Int) < l.length by omega, hlen, g1, hv] <;> try with_reducible rfl) | apply Wp.block | apply Wp.exitS | apply Wp.retS | apply Wp.exit | apply Wp.ret | apply Wp.skip)
        apply round_next (Q := fun _ _ => False)
        · simp -implicitDefEqProofs (maxSteps := 2000000) (disch := first | exact tt_rfl rfl | omega | (simp only [go_sem] <;> omega) | fail) only [go_sem, norm_eq, Ok.some]; with_reducible rfl
        exact ⟨by omega, c, j + 1, hs, by simp, by omega, by omega, by omega, hes, by rw [ef, if_neg (by decide), List.append_nil]; exact hF, hD'⟩
    · obtain rfl : j = l.length := by omega
      rw [List.take_length] at hF
      have hz : ((hs.map HoldA.av).take c).length = c := by rw [List.length_take]; omega
      have e3 : (l.filter p).map HoldA.av = (hs.map HoldA.av).take c := by rw [← hF, List.map_take]
      repeat (first | apply Wp.seqA | apply Wp.skipS | apply Wp.blockS | ((first | apply Wp.regS | apply Wp.condV | apply Wp.reg | apply Wp.condW | apply fin_ret); simp -implicitDefEqProofs (maxSteps := 2000000) (disch := first | exact tt_rfl rfl | omega | (simp only [go_sem] <;> omega) | fail) only [go_sem, Int.lt_irrefl, hlen, show ((c : Int) - 0).toNat = c by omega] <;> try with_reducible rfl) | apply Wp.block | apply Wp.exitS | apply Wp.retS | apply Wp.exit | apply Wp.ret | apply Wp.skip)
      rw [e3]
      generalize hs.map HoldA.av = es at *
      have g : c < (es.take c ++ List.replicate ((l.length : Int) - c).toNat (AV.agg [iv 0, iv 0, iv 0]) ++ es.drop (c + ((l.length : Int) - c).toNat)).length := by
        simp only [List.length_append, List.length_replicate, hz]; omega
      rw [exSl_prefix _ _ _ _ g, List.append_assoc, List.take_append_of_le_length (by omega), List.take_take, Nat.min_self]
      rfl
end Go.Abs
