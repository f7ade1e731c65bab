/-
 Several texts: M7, V3.
-/
import Derived.Test.YthafpdlfdkddpaaDoorV2
import Derived.Test.YthafpdlfdkddpaaDoorM5
import Derived.Test.YthafpdlfdkddpaaDoorM15
set_option linter.all false
namespace Go.Abs
set_option maxRecDepth 10000

/-- the floats of one ring are among those of another one, by length and side -/
def SameRuns (l l' : List Bool) : Prop := ∀ x ∈ runsT l, ∃ y ∈ runsT l', y.up = x.up ∧ y.len = x.len
structure Keeps (mk : Nat → RunT → FloatT) : Prop where
 up : ∀ i x, (mk i x).up = x.up
 len : ∀ i x, (mk i x).len = x.len
/-! ### Designs -/

/-- a design made of another one, point by point: when its longest floats are the same -/
structure LikeD (d e : DesN) : Prop where
 ok : d.Ok
 ok' : e.Ok
 w : ∀ i, i < d.rows.length → ∃ j, j < e.rows.length ∧ SameRuns (pickR d i) (pickR e j)
 w' : ∀ i, i < e.rows.length → ∃ j, j < d.rows.length ∧ SameRuns (pickR e i) (pickR d j)
 h : ∀ i, i < d.hk → ∃ j, j < e.hk ∧ SameRuns (hookR d i) (hookR e j)
 h' : ∀ i, i < e.hk → ∃ j, j < d.hk ∧ SameRuns (hookR e i) (hookR d j)
theorem made_len (g : Nat → Nat → Bool) (P H : Nat) : (madeN g P H).rows.length = P := by simp [madeN]
end Go.Abs

set_option linter.all false
namespace Go.Abs
set_option maxRecDepth 10000
set_option maxHeartbeats 4000000

theorem check_ok (l : List DesN) (hl : l.length ≤ 1000) (h : ∀ d ∈ l, d.Ok) : lim F 22 [.list 2 (l.map desV)] = some (iv 0, []) := by
 have hln : (l.map desV).length = l.length := by simp
 have hg : ∀ i (h : i < l.length), (l.map desV)[i]? = some (.agg [iv (l[i].hk : Int), .list 1 (natsV l[i].rows)]) := fun i h => by
  rw [List.getElem?_map, List.getElem?_eq_getElem h]; rfl
 have hC : ∀ i (h : i < l.length), lim F 29 [.agg [iv (l[i].hk : Int), .list 1 (natsV l[i].rows)]] = some (iv 0, []) := fun i hi => by
  have hd := h _ (List.getElem_mem hi)
  have := hd.r60
  have hc := Check_ok l[i].a (by simp [DesN.a]; omega)
  rw [checkD_ok hd, DesN.a_av] at hc
  exact hc
 generalize l.map desV = es at *
 refine lim_by (fn := a22) (k := 1) (res := [.tmp 2]) rfl rfl rfl (by simp -implicitDefEqProofs (maxSteps := 2000000) (disch := first | exact tt_rfl rfl | omega | (simp only [go_sem] <;> omega) | fail) only [go_sem]) ?_
 try delta mvA
 try delta opA
 try delta tA
 simp -implicitDefEqProofs (maxSteps := 2000000) (disch := first | exact tt_rfl rfl | omega | (simp only [go_sem] <;> omega) | fail) only [go_sem]
 repeat (first | apply Wp.seqA | apply Wp.skipS | apply Wp.blockS | ((first | apply Wp.regS | apply Wp.condV | apply Wp.reg | apply Wp.condW | apply fin_ret); simp -implicitDefEqProofs (maxSteps := 2000000) (disch := first | exact tt_rfl rfl | omega | (simp only [go_sem] <;> omega) | fail) only [go_sem, hln] <;> try with_reducible rfl) | apply Wp.block | apply Wp.exitS | apply Wp.retS | apply Wp.exit | apply Wp.ret | apply Wp.skip)
 apply Wp.loopF l.length (fun i => ⟨[(6, .list 2 es), (7, iv (l.length : Int)), (8, iv (i : Int))], [], [], 10000000⟩) (fun _ => True)
 ·simp -implicitDefEqProofs (maxSteps := 2000000) (disch := first | exact tt_rfl rfl | omega | (simp only [go_sem] <;> omega) | fail) only [go_sem, norm_eq, Ok.some]
  rfl
 ·trivial
 intro i hi _
 by_cases h : i < l.length
 ·have h1 := hg i h
  have h2 := hC i h
  repeat (first | apply Wp.seqA | apply Wp.skipS | apply Wp.blockS | ((first | apply Wp.regS | apply Wp.condV | apply Wp.reg | apply Wp.condW | apply fin_ret); simp -implicitDefEqProofs (maxSteps := 2000000) (disch := first | exact tt_rfl rfl | omega | (simp only [go_sem] <;> omega) | fail) only [go_sem, h, Int.ofNat_lt, h1, h2, hln] <;> try with_reducible rfl) | apply Wp.block | apply Wp.exitS | apply Wp.retS | apply Wp.exit | apply Wp.ret | apply Wp.skip)
  apply round_next
  ·simp -implicitDefEqProofs (maxSteps := 2000000) (disch := first | exact tt_rfl rfl | omega | (simp only [go_sem] <;> omega) | fail) only [go_sem, norm_eq, Ok.some]; with_reducible rfl
  exact ⟨h, by simp, trivial⟩
 ·repeat (first | apply Wp.seqA | apply Wp.skipS | apply Wp.blockS | ((first | apply Wp.regS | apply Wp.condV | apply Wp.reg | apply Wp.condW | apply fin_ret); simp -implicitDefEqProofs (maxSteps := 2000000) (disch := first | exact tt_rfl rfl | omega | (simp only [go_sem] <;> omega) | fail) only [go_sem, h, Int.ofNat_lt] <;> try with_reducible rfl) | apply Wp.block | apply Wp.exitS | apply Wp.retS | apply Wp.exit | apply Wp.ret | apply Wp.skip)

def layN (g f m : DesN) : DesN := madeN (fun p h => if atN m p h then atN f p h else atN g p h) m.rows.length m.hk
theorem isLike_ok (a b : DesN) (h1 : a.hk = b.hk) (h2 : a.rows.length = b.rows.length) (h3 : b.rows.length ≤ 1000) : lim F 23 [desV a, desV b] = some (.bool true, []) := by
 have n1 : (natsV a.rows).length = b.rows.length := by simp [h2]
 have n2 : (natsV b.rows).length = b.rows.length := by simp
 unfold desV
 rw [h1]
 generalize natsV a.rows = ra at *
 generalize natsV b.rows = rb at *
 refine lim_by (fn := a23) (k := 2) (res := [.tmp 4]) rfl rfl rfl (by simp -implicitDefEqProofs (maxSteps := 2000000) (disch := first | exact tt_rfl rfl | omega | (simp only [go_sem] <;> omega) | fail) only [go_sem]) ?_
 try delta mvA
 try delta opA
 try delta tA
 simp -implicitDefEqProofs (maxSteps := 2000000) (disch := first | exact tt_rfl rfl | omega | (simp only [go_sem] <;> omega) | fail) only [go_sem]
 repeat (first | apply Wp.seqA | apply Wp.skipS | apply Wp.blockS | ((first | apply Wp.regS | apply Wp.condV | apply Wp.reg | apply Wp.condW | apply fin_ret); simp -implicitDefEqProofs (maxSteps := 2000000) (disch := first | exact tt_rfl rfl | omega | (simp only [go_sem] <;> omega) | fail) only [go_sem, n1, n2] <;> try with_reducible rfl) | apply Wp.block | apply Wp.exitS | apply Wp.retS | apply Wp.exit | apply Wp.ret | apply Wp.skip)
end Go.Abs
