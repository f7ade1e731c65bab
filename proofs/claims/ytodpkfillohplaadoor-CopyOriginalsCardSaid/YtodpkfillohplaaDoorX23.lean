/-
 Chapter 12: full and empty sets, and how many points sets have. No condition beyond those that each theorem names.
-/
import Derived.Test.YtodpkfillohplaaDoorX20
import Derived.Test.YtodpkfillohplaaDoorX9
set_option linter.all false
namespace Go.Abs
set_option maxRecDepth 10000
set_option maxHeartbeats 4000000

def zeroN (n : Nat) : List Nat := List.replicate n 0
theorem lawEmpty_ok (hk : Int) (R : List AV) (hl : R.length ≤ 1000) : lim F 37 [.agg [iv hk, .list 1 R]] = some (.agg [iv hk, .own 1 (natsV (zeroN R.length))], []) := by
 have e : natsV (zeroN R.length) = List.replicate R.length (iv 0) := by unfold natsV zeroN; rw [List.map_replicate]; rfl
 rw [e]
 refine lim_by (fn := a37) (k := 1) (res := [.cell 2 2 true]) rfl rfl rfl (by simp -implicitDefEqProofs (maxSteps := 2000000) (disch := first | exact tt_rfl rfl | omega | (simp only [go_sem] <;> omega) | fail) only [go_sem]) ?_
 try delta mvA
 try delta opA
 try delta tA
 simp -implicitDefEqProofs (maxSteps := 2000000) (disch := first | exact tt_rfl rfl | omega | (simp only [go_sem] <;> omega) | fail) only [go_sem]
 repeat (first | apply Wp.seqA | apply Wp.skipS | apply Wp.blockS | ((first | apply Wp.regS | apply Wp.condV | apply Wp.reg | apply Wp.condW | apply fin_ret); simp -implicitDefEqProofs (maxSteps := 2000000) (disch := first | exact tt_rfl rfl | omega | (simp only [go_sem] <;> omega) | fail) only [go_sem, show ((R.length : Nat) : Int) ≤ 34359738368 by omega, show (0 : Int) ≤ (R.length : Nat) by omega, List.length_replicate, List.take_replicate, Nat.min_self, Int.toNat_natCast] <;> try with_reducible rfl) | apply Wp.block | apply Wp.exitS | apply Wp.retS | apply Wp.exit | apply Wp.ret | apply Wp.skip)
theorem lawFull_ok (hk : Nat) (R : List AV) (h24 : hk ≤ 24) (hl : R.length ≤ 1000) : lim F 36 [.agg [iv (hk : Int), .list 1 R]] = some (.agg [iv (hk : Int), .own 1 (natsV (fullN hk R.length))], []) := by
 have s1 := w_shl1 hk (by omega)
 have u2 : IntKind.wrap .u64 (hk : Int) = hk := wrap_u64 (by omega) (by omega)
 have p1 : 2 ^ hk ≤ 2 ^ 24 := Nat.pow_le_pow_right (by omega) h24
 have p2 : 0 < 2 ^ hk := Nat.pow_pos (by omega)
 have hs : ∀ i, natsV (fullN hk (i + 1)) = natsV (fullN hk i) ++ [iv (((2 ^ hk : Nat) : Int) - 1)] := fun i => by
  unfold fullN natsV
  rw [List.map_replicate, List.map_replicate, List.replicate_succ']
  have : ((2 ^ hk - 1 : Nat) : Int) = ((2 ^ hk : Nat) : Int) - 1 := by omega
  rw [this]
 have hll : ∀ i, (natsV (fullN hk i)).length = i := fun i => by simp [fullN]
 have hpl : ∀ i, (natsV (fullN hk i)).all AV.plain = true := fun i => nats_plain _
 generalize 2 ^ hk = pk at *
 generalize hn : R.length = n at *
 generalize hfu : (fun i => natsV (fullN hk i)) = fu at *
 have hfe : ∀ i, natsV (fullN hk i) = fu i := fun i => by rw [← hfu]
 simp only [hfe] at hs hll hpl ⊢
 refine lim_by (fn := a36) (k := 1) (res := [.cell 2 2 true]) rfl rfl rfl (by simp -implicitDefEqProofs (maxSteps := 2000000) (disch := first | exact tt_rfl rfl | omega | (simp only [go_sem] <;> omega) | fail) only [go_sem]) ?_
 try delta mvA
 try delta opA
 try delta tA
 simp -implicitDefEqProofs (maxSteps := 2000000) (disch := first | exact tt_rfl rfl | omega | (simp only [go_sem] <;> omega) | fail) only [go_sem]
 repeat (first | apply Wp.seqA | apply Wp.skipS | apply Wp.blockS | ((first | apply Wp.regS | apply Wp.condV | apply Wp.reg | apply Wp.condW | apply fin_ret); simp -implicitDefEqProofs (maxSteps := 2000000) (disch := first | exact tt_rfl rfl | omega | (simp only [go_sem] <;> omega) | fail) only [go_sem] <;> try with_reducible rfl) | apply Wp.block | apply Wp.exitS | apply Wp.retS | apply Wp.exit | apply Wp.ret | apply Wp.skip)
 apply Wp.loopF n (fun i => ⟨[(1, .ptr 64 0 0), (2, .ptr 128 0 0), (3, .ptr 192 0 0), (4, iv (i : Int))], [(64, .box [iv (hk : Int), .list 1 R]), (128, .box [iv 0, .slice 302049 0 0]), (192, .box [iv (hk : Int), .slice 303073 0 i]), (302049, .arr 1 []), (303073, .arr 1 (fu i))], [], 10000000⟩) (fun _ => True)
 ·simp -implicitDefEqProofs (maxSteps := 2000000) (disch := first | exact tt_rfl rfl | omega | (simp only [go_sem] <;> omega) | fail) only [go_sem, norm_eq, Ok.some]
  rw [← hfu]
  rfl
 ·trivial
 intro i hi _
 have l1 := hll i
 by_cases h' : i < n
 ·rw [hs i]
  clear hs hfe hfu
  generalize fu i = L at *
  repeat (first | apply Wp.seqA | apply Wp.skipS | apply Wp.blockS | ((first | apply Wp.regS | apply Wp.condV | apply Wp.reg | apply Wp.condW | apply fin_ret); simp -implicitDefEqProofs (maxSteps := 2000000) (disch := first | exact tt_rfl rfl | omega | (simp only [go_sem] <;> omega) | fail) only [go_sem, h', Int.ofNat_lt, hn, s1, u2, Int.toNat_natCast, l1] <;> try with_reducible rfl) | apply Wp.block | apply Wp.exitS | apply Wp.retS | apply Wp.exit | apply Wp.ret | apply Wp.skip)
  apply round_next
  ·simp -implicitDefEqProofs (maxSteps := 2000000) (disch := first | exact tt_rfl rfl | omega | (simp only [go_sem] <;> omega) | fail) only [go_sem, norm_eq, Ok.some]; with_reducible rfl
  exact ⟨h', by simp, trivial⟩
 ·obtain rfl : i = n := by omega
  have t1 : (fu i).take i = fu i := List.take_of_length_le (by omega)
  have P1 := hpl i
  clear hs hfe hfu
  generalize fu i = L at *
  repeat (first | apply Wp.seqA | apply Wp.skipS | apply Wp.blockS | ((first | apply Wp.regS | apply Wp.condV | apply Wp.reg | apply Wp.condW | apply fin_ret); simp -implicitDefEqProofs (maxSteps := 2000000) (disch := first | exact tt_rfl rfl | omega | (simp only [go_sem] <;> omega) | fail) only [go_sem, Int.lt_irrefl, hn, l1, t1, P1] <;> try with_reducible rfl) | apply Wp.block | apply Wp.exitS | apply Wp.retS | apply Wp.exit | apply Wp.ret | apply Wp.skip)
theorem points_ok {l : List DesN} {hk n : Nat} (h : SetsOk l hk n) : lim F 38 [.list 2 (l.map setV)] = some (iv ((hk * n : Nat) : Int), []) := by
 obtain ⟨⟨k1, k2⟩, k3, k4⟩ := h.k1
 have hl1 := h.l1
 have hl10 := h.l10
 have hC := refCheckS_ok (l.map DesN.a) (by simp; omega) (fun d hd => by
  obtain ⟨x, hx, rfl⟩ := List.mem_map.1 hd
  have := h.rows x hx
  simp [DesN.a]
  omega)
 rw [sets_av, checkS_ok h] at hC
 have hg0 : (l.map setV)[0]? = some (setV (l.getD 0 ⟨0, []⟩)) := by
  rw [List.getElem?_map, List.getElem?_eq_getElem hl1, List.getD_eq_getElem?_getD, List.getElem?_eq_getElem hl1]
  rfl
 have hgd : l.getD 0 ⟨0, []⟩ = l[0] := by rw [List.getD_eq_getElem?_getD, List.getElem?_eq_getElem hl1]; rfl
 have hh0 : (l.getD 0 ⟨0, []⟩).hk = hk := by rw [hgd]; exact h.hk _ (List.getElem_mem _)
 have hr0 : (natsV (l.getD 0 ⟨0, []⟩).rows).length = n := by rw [hgd]; simp; exact h.rows _ (List.getElem_mem _)
 unfold setV at *
 rw [hh0] at hg0
 generalize natsV (l.getD 0 ⟨0, []⟩).rows = r0 at *
 have m2 : (hk : Int) * (n : Int) = ((hk * n : Nat) : Int) := by simp
 have hm : hk * n ≤ 24 * 60 := Nat.mul_le_mul k2 k4
 generalize hk * n = p at *
 generalize (l.map fun d => AV.agg [iv (d.hk : Int), .list 1 (natsV d.rows)]) = es at *
 refine lim_by (fn := a38) (k := 1) (res := [.tmp 2]) rfl rfl rfl (by simp -implicitDefEqProofs (maxSteps := 2000000) (disch := first | exact tt_rfl rfl | omega | (simp only [go_sem] <;> omega) | fail) only [go_sem]) ?_
 try delta mvA
 try delta opA
 try delta tA
 simp -implicitDefEqProofs (maxSteps := 2000000) (disch := first | exact tt_rfl rfl | omega | (simp only [go_sem] <;> omega) | fail) only [go_sem]
 repeat (first | apply Wp.seqA | apply Wp.skipS | apply Wp.blockS | ((first | apply Wp.regS | apply Wp.condV | apply Wp.reg | apply Wp.condW | apply fin_ret); simp -implicitDefEqProofs (maxSteps := 2000000) (disch := first | exact tt_rfl rfl | omega | (simp only [go_sem] <;> omega) | fail) only [go_sem, hC, hg0, hr0, m2] <;> try with_reducible rfl) | apply Wp.block | apply Wp.exitS | apply Wp.retS | apply Wp.exit | apply Wp.ret | apply Wp.skip)
theorem same_self (x : Int) (R : List Nat) (h : R.length ≤ 1000) : lim F 22 [.agg [iv x, .list 1 (natsV R)], .agg [iv x, .list 1 (natsV R)]] = some (.bool true, []) := by
 have := Same_ok ⟨x, R.map fun n : Nat => (n : Int)⟩ ⟨x, R.map fun n : Nat => (n : Int)⟩ (by simp; omega)
 unfold DesA.av at this
 simp only [and_self, decide_true] at this
 rw [← nats_ints] at this
 exact this
end Go.Abs
