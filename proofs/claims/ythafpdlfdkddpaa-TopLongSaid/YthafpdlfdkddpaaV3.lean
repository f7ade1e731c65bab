/-
  Chapter 1: a figure that is laid on a ground. No condition beyond those that each theorem names.
-/
import Derived.Test.YthafpdlfdkddpaaV2
import Derived.Test.YthafpdlfdkddpaaM7
set_option linter.all false
namespace Go.Abs
set_option maxRecDepth 10000
set_option maxHeartbeats 4000000

theorem made3_ok (picks hooks f : Nat) (x y z : AV) (g : Nat → Nat → Bool) (hp1 : picks ≤ 1000) (hh1 : hooks ≤ 24) (hf : ∀ p h, p < picks → h < hooks → lim F f [iv (p : Int), iv (h : Int), .iptr x 0, .iptr y 0, .iptr z 0] = some (.bool (g p h), [])) :
    lim F 34 [iv (picks : Int), iv (hooks : Int), .func f [.iptr x 0, .iptr y 0, .iptr z 0]] = some (.agg [iv (hooks : Int), .own 1 ((madeN g picks hooks).rows.map fun n : Nat => iv (n : Int))], []) := by
  have hz := Lr_zero g picks hooks
  rw [← Lr_end]
  refine lim_by (fn := a34) (k := 3) (res := [.cell 6 2 true]) rfl rfl rfl (by simp -implicitDefEqProofs (maxSteps := 2000000) (disch := first | exact tt_rfl rfl | omega | (simp only [go_sem] <;> omega) | fail) only [go_sem]) ?_
  try delta mvA
  try delta opA
  try delta tA
  simp -implicitDefEqProofs (maxSteps := 2000000) (disch := first | exact tt_rfl rfl | omega | (simp only [go_sem] <;> omega) | fail) only [go_sem]
  repeat (first | apply Wp.seqA | apply Wp.skipS | apply Wp.blockS | ((first | apply Wp.regS | apply Wp.condV | apply Wp.reg | apply Wp.condW | apply fin_ret); simp -implicitDefEqProofs (maxSteps := 2000000) (disch := first | exact tt_rfl rfl | omega | (simp only [go_sem] <;> omega) | fail) only [go_sem] <;> try with_reducible rfl) | apply Wp.block | apply Wp.exitS | apply Wp.retS | apply Wp.exit | apply Wp.ret | apply Wp.skip)
  apply Wp.loopF picks (fun p => ⟨[(1, iv (hooks : Int)), (2, .func f [.iptr x 0, .iptr y 0, .iptr z 0]), (6, .ptr 384 0 0), (7, .ptr 448 0 0), (14, iv (picks : Int)), (15, iv (p : Int))], [(384, .box [iv 0, .slice 306145 0 0]), (448, .box [iv (hooks : Int), .slice 307169 0 picks]), (306145, .arr 1 []), (307169, .arr 1 (Lr g picks hooks p 0))], [], 10000000⟩) (fun _ => True)
  · rw [hz]
    simp -implicitDefEqProofs (maxSteps := 2000000) (disch := first | exact tt_rfl rfl | omega | (simp only [go_sem] <;> omega) | fail) only [go_sem, norm_eq, Ok.some]
    rfl
  · trivial
  intro p hp _
  by_cases h : p < picks
  · have hfp := fun k hk => hf p k h hk
    repeat (first | apply Wp.seqA | apply Wp.skipS | apply Wp.blockS | ((first | apply Wp.regS | apply Wp.condV | apply Wp.reg | apply Wp.condW | apply fin_ret); simp -implicitDefEqProofs (maxSteps := 2000000) (disch := first | exact tt_rfl rfl | omega | (simp only [go_sem] <;> omega) | fail) only [go_sem, h, Int.ofNat_lt] <;> try with_reducible rfl) | apply Wp.block | apply Wp.exitS | apply Wp.retS | apply Wp.exit | apply Wp.ret | apply Wp.skip)
    apply Wp.loopF hooks (fun k => ⟨[(1, iv (hooks : Int)), (2, .func f [.iptr x 0, .iptr y 0, .iptr z 0]), (6, .ptr 384 0 0), (7, .ptr 448 0 0), (8, iv (p : Int)), (14, iv (picks : Int)), (15, iv (p : Int)), (18, iv (hooks : Int)), (19, iv (k : Int))], [(384, .box [iv 0, .slice 306145 0 0]), (448, .box [iv (hooks : Int), .slice 307169 0 picks]), (306145, .arr 1 []), (307169, .arr 1 (Lr g picks hooks p (rowTo (g p) k)))], [], 10000000⟩) (fun _ => True)
    · simp -implicitDefEqProofs (maxSteps := 2000000) (disch := first | exact tt_rfl rfl | omega | (simp only [go_sem] <;> omega) | fail) only [go_sem, norm_eq, Ok.some]
      try rfl
    · trivial
    intro k hk _
    by_cases hkk : k < hooks
    · have hc := hfp k hkk
      have hlen := Lr_len g picks hooks p (rowTo (g p) k)
      have hge := Lr_get (g := g) (hooks := hooks) (v := rowTo (g p) k) h
      have hse := Lr_set (g := g) (hooks := hooks) (v := rowTo (g p) k) (w := rowTo (g p) (k + 1)) h
      have hst : rowTo (g p) (k + 1) = rowTo (g p) k ||| (if g p k then 2 ^ k else 0) := rfl
      have p1 : 2 ^ k ≤ 2 ^ 24 := Nat.pow_le_pow_right (by omega) (by omega)
      have hlt := rowTo_lt (g p) k
      cases hb : g p k with
      | true =>
        rw [hb] at hc hst
        rw [if_pos rfl] at hst
        have s1 := w_shl1 k (by omega)
        have s2 := w_or (rowTo (g p) k) (2 ^ k) (by omega) (by omega)
        rw [← hst] at s2
        generalize rowTo (g p) k = v at *
        generalize rowTo (g p) (k + 1) = v' at *
        generalize Lr g picks hooks p v = L at *
        generalize Lr g picks hooks p v' = L' at *
        generalize 2 ^ k = pw at *
        repeat (first | apply Wp.seqA | apply Wp.skipS | apply Wp.blockS | ((first | apply Wp.regS | apply Wp.condV | apply Wp.reg | apply Wp.condW | apply fin_ret); simp -implicitDefEqProofs (maxSteps := 2000000) (disch := first | exact tt_rfl rfl | omega | (simp only [go_sem] <;> omega) | fail) only [go_sem, h, hkk, Int.ofNat_lt, hc, hlen, hge, hse, s1, s2, Int.toNat_natCast] <;> try with_reducible rfl) | apply Wp.block | apply Wp.exitS | apply Wp.retS | apply Wp.exit | apply Wp.ret | apply Wp.skip)
        apply round_next
        · simp -implicitDefEqProofs (maxSteps := 2000000) (disch := first | exact tt_rfl rfl | omega | (simp only [go_sem] <;> omega) | fail) only [go_sem, norm_eq, Ok.some]; with_reducible rfl
        exact ⟨hkk, by simp, trivial⟩
      | false =>
        rw [hb] at hc hst
        rw [if_neg (by simp), Nat.or_zero] at hst
        rw [hst]
        generalize Lr g picks hooks p (rowTo (g p) k) = L at *
        repeat (first | apply Wp.seqA | apply Wp.skipS | apply Wp.blockS | ((first | apply Wp.regS | apply Wp.condV | apply Wp.reg | apply Wp.condW | apply fin_ret); simp -implicitDefEqProofs (maxSteps := 2000000) (disch := first | exact tt_rfl rfl | omega | (simp only [go_sem] <;> omega) | fail) only [go_sem, h, hkk, Int.ofNat_lt, hc, hlen, Int.toNat_natCast] <;> try with_reducible rfl) | apply Wp.block | apply Wp.exitS | apply Wp.retS | apply Wp.exit | apply Wp.ret | apply Wp.skip)
        apply round_next
        · simp -implicitDefEqProofs (maxSteps := 2000000) (disch := first | exact tt_rfl rfl | omega | (simp only [go_sem] <;> omega) | fail) only [go_sem, norm_eq, Ok.some]; with_reducible rfl
        exact ⟨hkk, by simp, trivial⟩
    · obtain rfl : k = hooks := by omega
      have hnx := Lr_next (g := g) (picks := picks) (hooks := k) (p := p)
      rw [hnx]
      repeat (first | apply Wp.seqA | apply Wp.skipS | apply Wp.blockS | ((first | apply Wp.regS | apply Wp.condV | apply Wp.reg | apply Wp.condW | apply fin_ret); simp -implicitDefEqProofs (maxSteps := 2000000) (disch := first | exact tt_rfl rfl | omega | (simp only [go_sem] <;> omega) | fail) only [go_sem, h, Int.ofNat_lt, Int.lt_irrefl] <;> try with_reducible rfl) | apply Wp.block | apply Wp.exitS | apply Wp.retS | apply Wp.exit | apply Wp.ret | apply Wp.skip)
      apply round_next
      · simp -implicitDefEqProofs (maxSteps := 2000000) (disch := first | exact tt_rfl rfl | omega | (simp only [go_sem] <;> omega) | fail) only [go_sem, norm_eq, Ok.some]; with_reducible rfl
      exact ⟨h, by simp, trivial⟩
  · obtain rfl : p = picks := by omega
    have hlen := Lr_len g p hooks p 0
    have hpl := Lr_plain g p hooks p 0
    generalize Lr g p hooks p 0 = L at *
    repeat (first | apply Wp.seqA | apply Wp.skipS | apply Wp.blockS | ((first | apply Wp.regS | apply Wp.condV | apply Wp.reg | apply Wp.condW | apply fin_ret); simp -implicitDefEqProofs (maxSteps := 2000000) (disch := first | exact tt_rfl rfl | omega | (simp only [go_sem] <;> omega) | fail) only [go_sem, Int.lt_irrefl, hlen, hpl] <;> try with_reducible rfl) | apply Wp.block | apply Wp.exitS | apply Wp.retS | apply Wp.exit | apply Wp.ret | apply Wp.skip)

theorem madeN_congr {g g' : Nat → Nat → Bool} {P H : Nat} (h : ∀ p h, p < P → h < H → g p h = g' p h) : madeN g P H = madeN g' P H := by
  unfold madeN
  congr 1
  apply List.map_congr_left
  intro q hq
  exact rowTo_congr fun j hj => h q j (List.mem_range.1 hq) hj
theorem made_self {d : DesN} (hd : d.Ok) : madeN (atN d) d.rows.length d.hk = d := by
  obtain ⟨hk, rows⟩ := d
  unfold madeN
  dsimp only
  congr 1
  apply List.ext_getElem
  · simp
  · intro q h1 h2
    rw [List.getElem_map, List.getElem_range]
    have hlt := hd.lt _ (List.getElem_mem h2)
    rw [← rowTo_self hlt]
    refine rowTo_congr fun j hj => ?_
    unfold atN
    dsimp only at *
    rw [Nat.mod_eq_of_lt h2, Nat.mod_eq_of_lt hj, List.getD_eq_getElem?_getD, List.getElem?_eq_getElem h2]; rfl

theorem check_ok (l : List DesN) (hl : l.length ≤ 1000) (h : ∀ d ∈ l, d.Ok) : lim F 15 [.list 2 (l.map desV)] = some (iv 0, []) := by
  have hln : (l.map desV).length = l.length := by simp
  have hg : ∀ i (h : i < l.length), (l.map desV)[i]? = some (.agg [iv (l[i].hk : Int), .list 1 (natsV l[i].rows)]) := fun i h => by
    rw [List.getElem?_map, List.getElem?_eq_getElem h]; rfl
  have hC : ∀ i (h : i < l.length), lim F 32 [.agg [iv (l[i].hk : Int), .list 1 (natsV l[i].rows)]] = some (iv 0, []) := fun i hi => by
    have hd := h _ (List.getElem_mem hi)
    have := hd.r60
    have hc := Check_ok l[i].a (by simp [DesN.a]; omega)
    rw [checkD_ok hd, DesN.a_av] at hc
    exact hc
  generalize l.map desV = es at *
  refine lim_by (fn := a15) (k := 1) (res := [.tmp 2]) rfl rfl rfl (by simp -implicitDefEqProofs (maxSteps := 2000000) (disch := first | exact tt_rfl rfl | omega | (simp only [go_sem] <;> omega) | fail) only [go_sem]) ?_
  try delta mvA
  try delta opA
  try delta tA
  simp -implicitDefEqProofs (maxSteps := 2000000) (disch := first | exact tt_rfl rfl | omega | (simp only [go_sem] <;> omega) | fail) only [go_sem]
  repeat (first | apply Wp.seqA | apply Wp.skipS | apply Wp.blockS | ((first | apply Wp.regS | apply Wp.condV | apply Wp.reg | apply Wp.condW | apply fin_ret); simp -implicitDefEqProofs (maxSteps := 2000000) (disch := first | exact tt_rfl rfl | omega | (simp only [go_sem] <;> omega) | fail) only [go_sem, hln] <;> try with_reducible rfl) | apply Wp.block | apply Wp.exitS | apply Wp.retS | apply Wp.exit | apply Wp.ret | apply Wp.skip)
  apply Wp.loopF l.length (fun i => ⟨[(6, .list 2 es), (7, iv (l.length : Int)), (8, iv (i : Int))], [], [], 10000000⟩) (fun _ => True)
  · simp -implicitDefEqProofs (maxSteps := 2000000) (disch := first | exact tt_rfl rfl | omega | (simp only [go_sem] <;> omega) | fail) only [go_sem, norm_eq, Ok.some]
    rfl
  · trivial
  intro i hi _
  by_cases h : i < l.length
  · have h1 := hg i h
    have h2 := hC i h
    repeat (first | apply Wp.seqA | apply Wp.skipS | apply Wp.blockS | ((first | apply Wp.regS | apply Wp.condV | apply Wp.reg | apply Wp.condW | apply fin_ret); simp -implicitDefEqProofs (maxSteps := 2000000) (disch := first | exact tt_rfl rfl | omega | (simp only [go_sem] <;> omega) | fail) only [go_sem, h, Int.ofNat_lt, h1, h2, hln] <;> try with_reducible rfl) | apply Wp.block | apply Wp.exitS | apply Wp.retS | apply Wp.exit | apply Wp.ret | apply Wp.skip)
    apply round_next
    · simp -implicitDefEqProofs (maxSteps := 2000000) (disch := first | exact tt_rfl rfl | omega | (simp only [go_sem] <;> omega) | fail) only [go_sem, norm_eq, Ok.some]; with_reducible rfl
    exact ⟨h, by simp, trivial⟩
  · repeat (first | apply Wp.seqA | apply Wp.skipS | apply Wp.blockS | ((first | apply Wp.regS | apply Wp.condV | apply Wp.reg | apply Wp.condW | apply fin_ret); simp -implicitDefEqProofs (maxSteps := 2000000) (disch := first | exact tt_rfl rfl | omega | (simp only [go_sem] <;> omega) | fail) only [go_sem, h, Int.ofNat_lt] <;> try with_reducible rfl) | apply Wp.block | apply Wp.exitS | apply Wp.retS | apply Wp.exit | apply Wp.ret | apply Wp.skip)

def layN (g f m : DesN) : DesN := madeN (fun p h => if atN m p h then atN f p h else atN g p h) m.rows.length m.hk
end Go.Abs
