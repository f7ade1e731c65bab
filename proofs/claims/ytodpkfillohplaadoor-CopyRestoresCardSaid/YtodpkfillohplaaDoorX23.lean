/-
 Chapter 12: full and empty sets, and how many points sets have. No condition beyond those that each theorem names.
-/
import Derived.Test.YtodpkfillohplaaDoorX20
import Derived.Test.YtodpkfillohplaaDoorX9
set_option linter.all false
namespace Go.Abs
set_option maxRecDepth 10000
set_option maxHeartbeats 4000000

def zeroN (n : Nat) : List Nat := List.replicate n 0
theorem points_ok {l : List DesN} {hk n : Nat} (h : SetsOk l hk n) : lim F 38 [.list 2 (l.map setV)] = some (iv ((hk * n : Nat) : Int), []) := by
 obtain ⟨⟨k1, k2⟩, k3, k4⟩ := h.k1
 have hl1 := h.l1
 have hl10 := h.l10
 have hC := refCheckS_ok (l.map DesN.a) (by simp; omega) (fun d hd => by
  obtain ⟨x, hx, rfl⟩ := List.mem_map.1 hd
  have := h.rows x hx
  simp [DesN.a]
  omega)
 rw [sets_av, checkS_ok h] at hC
 have hg0 : (l.map setV)[0]? = some (setV (l.getD 0 ⟨0, []⟩)) := by
  rw [List.getElem?_map, List.getElem?_eq_getElem hl1, List.getD_eq_getElem?_getD, List.getElem?_eq_getElem hl1]
  rfl
 have hgd : l.getD 0 ⟨0, []⟩ = l[0] := by rw [List.getD_eq_getElem?_getD, List.getElem?_eq_getElem hl1]; rfl
 have hh0 : (l.getD 0 ⟨0, []⟩).hk = hk := by rw [hgd]; exact h.hk _ (List.getElem_mem _)
 have hr0 : (natsV (l.getD 0 ⟨0, []⟩).rows).length = n := by rw [hgd]; simp; exact h.rows _ (List.getElem_mem _)
 unfold setV at *
 rw [hh0] at hg0
 generalize natsV (l.getD 0 ⟨0, []⟩).rows = r0 at *
 have m2 : (hk : Int) * (n : Int) = ((hk * n : Nat) : Int) := by simp
 have hm : hk * n ≤ 24 * 60 := Nat.mul_le_mul k2 k4
 generalize hk * n = p at *
 generalize (l.map fun d => AV.agg [iv (d.hk : Int), .list 1 (natsV d.rows)]) = es at *
 refine lim_by (fn := a38) (k := 1) (res := [.tmp 2]) rfl rfl rfl (by simp -implicitDefEqProofs (maxSteps := 2000000) (disch := first | exact tt_rfl rfl | omega | (simp only [go_sem] <;> omega) | fail) only [go_sem]) ?_
 try delta mvA
 try delta opA
 try delta tA
 simp -implicitDefEqProofs (maxSteps := 2000000) (disch := first | exact tt_rfl rfl | omega | (simp only [go_sem] <;> omega) | fail) only [go_sem]
 repeat (first | apply Wp.seqA | apply Wp.skipS | apply Wp.blockS | ((first | apply Wp.regS | apply Wp.condV | apply Wp.reg | apply Wp.condW | apply fin_ret); simp -implicitDefEqProofs (maxSteps := 2000000) (disch := first | exact tt_rfl rfl | omega | (simp only [go_sem] <;> omega) | fail) only [go_sem, hC, hg0, hr0, m2] <;> try with_reducible rfl) | apply Wp.block | apply Wp.exitS | apply Wp.retS | apply Wp.exit | apply Wp.ret | apply Wp.skip)
theorem same_self (x : Int) (R : List Nat) (h : R.length ≤ 1000) : lim F 22 [.agg [iv x, .list 1 (natsV R)], .agg [iv x, .list 1 (natsV R)]] = some (.bool true, []) := by
 have := Same_ok ⟨x, R.map fun n : Nat => (n : Int)⟩ ⟨x, R.map fun n : Nat => (n : Int)⟩ (by simp; omega)
 unfold DesA.av at this
 simp only [and_self, decide_true] at this
 rw [← nats_ints] at this
 exact this
end Go.Abs
