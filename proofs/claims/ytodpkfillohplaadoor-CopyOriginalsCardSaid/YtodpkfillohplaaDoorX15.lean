/-
 Chapter 12: how much room there is for an original. No condition beyond those that each theorem names.
-/
import Derived.Test.YtodpkfillohplaaDoorX11
set_option linter.all false
namespace Go.Abs
set_option maxRecDepth 10000
set_option maxHeartbeats 4000000

/-- the room behind so many copies -/
def moreTo (s : List (List Nat)) (j : List Nat) (n : Nat) (most : Int) : Nat → Int
 | 0 => most
 | k + 1 => min (moreTo s j n most k) (most - (lostV j (s.getD k []) n : Nat))
theorem moreTo_le (s : List (List Nat)) (j : List Nat) (n : Nat) (most : Int) : ∀ k, moreTo s j n most k ≤ most ∧ most - 24 * n ≤ moreTo s j n most k
 | 0 => ⟨Int.le_refl _, by unfold moreTo; omega⟩
 | k + 1 => by
  have h := moreTo_le s j n most k
  have h2 := lostV_le j (s.getD k []) n
  unfold moreTo
  omega
theorem isMost_ok (most : Int) : lim F 86 [iv most] = some (.bool (decide (0 ≤ most ∧ most ≤ 1000)), []) := by
 have h := within_ok 0 1000 [most] (by simp)
 simp only [List.map_cons, List.map_nil, List.all_cons, List.all_nil, Bool.and_true] at h
 refine lim_by (fn := a86) (k := 1) (res := [.tmp 2]) rfl rfl rfl (by simp -implicitDefEqProofs (maxSteps := 2000000) (disch := first | exact tt_rfl rfl | omega | (simp only [go_sem] <;> omega) | fail) only [go_sem]) ?_
 try delta mvA
 try delta opA
 try delta tA
 simp -implicitDefEqProofs (maxSteps := 2000000) (disch := first | exact tt_rfl rfl | omega | (simp only [go_sem] <;> omega) | fail) only [go_sem]
 repeat (first | apply Wp.seqA | apply Wp.skipS | apply Wp.blockS | ((first | apply Wp.regS | apply Wp.condV | apply Wp.reg | apply Wp.condW | apply fin_ret); simp -implicitDefEqProofs (maxSteps := 2000000) (disch := first | exact tt_rfl rfl | omega | (simp only [go_sem] <;> omega) | fail) only [go_sem, h] <;> try with_reducible rfl) | apply Wp.block | apply Wp.exitS | apply Wp.retS | apply Wp.exit | apply Wp.ret | apply Wp.skip)
theorem room_bad (l : List DesA) (hl : l.length ≤ 1000) (hr : ∀ d ∈ l, d.rows.length ≤ 1000000) (w most : Int) (he : wayE w l ≠ 0) : lim F 69 [iv w, .list 2 (l.map DesA.av), iv most] = some (.tuple [.agg [iv 0, .bool false, .own 1 []], .own 1 [], iv 0, iv (wayE w l)], []) := by
 have hO := open_bad l hl hr w he
 generalize l.map DesA.av = es at *
 generalize wayE w l = e at *
 refine lim_by (fn := a69) (k := 3) (res := [.cell 6 3 true, .tmp 7, .tmp 8, .tmp 9]) rfl rfl rfl (by simp -implicitDefEqProofs (maxSteps := 2000000) (disch := first | exact tt_rfl rfl | omega | (simp only [go_sem] <;> omega) | fail) only [go_sem]) ?_
 try delta mvA
 try delta opA
 try delta tA
 simp -implicitDefEqProofs (maxSteps := 2000000) (disch := first | exact tt_rfl rfl | omega | (simp only [go_sem] <;> omega) | fail) only [go_sem]
 repeat (first | apply Wp.seqA | apply Wp.skipS | apply Wp.blockS | ((first | apply Wp.regS | apply Wp.condV | apply Wp.reg | apply Wp.condW | apply fin_ret); simp -implicitDefEqProofs (maxSteps := 2000000) (disch := first | exact tt_rfl rfl | omega | (simp only [go_sem] <;> omega) | fail) only [go_sem, hO, he] <;> try with_reducible rfl) | apply Wp.block | apply Wp.exitS | apply Wp.retS | apply Wp.exit | apply Wp.ret | apply Wp.skip)
theorem room_range {l : List DesN} {hk n : Nat} (h : SetsOk l hk n) (t : Bool) (most : Int) (hm : ¬ (0 ≤ most ∧ most ≤ 1000)) : lim F 69 [iv (wayOf t), .list 2 (l.map setV), iv most] = some (.tuple [openV t hk (setsN t hk l), .own 1 [], iv 0, iv 3], []) := by
 have hO := open_ok h t
 have hM := isMost_ok most
 rw [decide_eq_false hm] at hM
 have n1 : ((setsN t hk l).map listV).length = l.length := by simp
 unfold openV at hO ⊢
 generalize l.map setV = es at *
 generalize (setsN t hk l).map listV = sr at *
 refine lim_by (fn := a69) (k := 3) (res := [.cell 6 3 true, .tmp 7, .tmp 8, .tmp 9]) rfl rfl rfl (by simp -implicitDefEqProofs (maxSteps := 2000000) (disch := first | exact tt_rfl rfl | omega | (simp only [go_sem] <;> omega) | fail) only [go_sem]) ?_
 try delta mvA
 try delta opA
 try delta tA
 simp -implicitDefEqProofs (maxSteps := 2000000) (disch := first | exact tt_rfl rfl | omega | (simp only [go_sem] <;> omega) | fail) only [go_sem]
 repeat (first | apply Wp.seqA | apply Wp.skipS | apply Wp.blockS | ((first | apply Wp.regS | apply Wp.condV | apply Wp.reg | apply Wp.condW | apply fin_ret); simp -implicitDefEqProofs (maxSteps := 2000000) (disch := first | exact tt_rfl rfl | omega | (simp only [go_sem] <;> omega) | fail) only [go_sem, hO, hM, ite_self, n1] <;> try with_reducible rfl) | apply Wp.block | apply Wp.exitS | apply Wp.retS | apply Wp.exit | apply Wp.ret | apply Wp.skip)
theorem room_loop {l : List DesN} {hk n : Nat} (h : SetsOk l hk n) (t : Bool) (most : Int) (h0 : 0 ≤ most) (h1 : most ≤ 1000) : lim F 69 [iv (wayOf t), .list 2 (l.map setV), iv most] = some (if moreTo (setsN t hk l) (joinN (setsN t hk l) n) n most l.length < 0 then .tuple [openV t hk (setsN t hk l), .own 1 [], iv 0, iv 9] else .tuple [openV t hk (setsN t hk l), .own 1 (natsV (joinN (setsN t hk l) n)), iv (moreTo (setsN t hk l) (joinN (setsN t hk l) n) n most l.length), iv 0], []) := by
 obtain ⟨⟨k1, k2⟩, k3, k4⟩ := h.k1
 have hl10 := h.l10
 have hO := open_ok h t
 have hrow := setsN_row (t := t) h
 have hr24 : ∀ r ∈ setsN t hk l, r.length = n ∧ ∀ x ∈ r, x < 2 ^ 24 := fun r hr => ⟨(hrow r hr).1, fun x hx => up24 ((hrow r hr).2 x hx) k2⟩
 have hJ := join_ok (setsN t hk l) n (by simp; exact h.l1) (by simp; omega) (by omega) hr24
 have hjl : ∀ x ∈ joinN (setsN t hk l) n, x < 2 ^ 24 := fun r hr => by
  obtain ⟨q, hq, rfl⟩ := List.mem_map.1 hr
  exact joinAt_lt hr24 (List.mem_range.1 hq)
 have hsl : (setsN t hk l).length = l.length := by simp
 generalize setsN t hk l = s at *
 generalize hjn : joinN s n = j at *
 have hjlen : j.length = n := by rw [← hjn]; simp
 have hsg : ∀ k, k < l.length → (s.getD k []).length = n ∧ ∀ x ∈ s.getD k [], x < 2 ^ 24 := fun k hk' => by
  rw [List.getD_eq_getElem?_getD, List.getElem?_eq_getElem (by omega)]
  exact hr24 _ (List.getElem_mem _)
 have hL0 : ∀ i, i < l.length → lim F 65 [.list 1 (natsV j), .list 1 (natsV (s.getD i []))] = some (.tuple [iv ((lostV j (s.getD i []) n : Nat) : Int), .bool (subB j (s.getD i []) n)], []) := fun i hi =>
  lost_ok j (s.getD i []) n hjlen (hsg i hi).1 (by omega) hjl (hsg i hi).2
 have hg : ∀ k, k < l.length → (s.map listV)[k]? = some (.list 1 (natsV (s.getD k []))) := fun k hk' => sets_get (by omega)
 have n1 : (s.map listV).length = l.length := by simp [hsl]
 have n2 : (natsV j).length = n := by simp [hjlen]
 have t2 : (natsV j).take n = natsV j := List.take_of_length_le (by omega)
 have P2 := nats_plain j
 have tS : (s.map listV).take l.length = s.map listV := List.take_of_length_le (by omega)
 have hms : ∀ k, moreTo s j n most (k + 1) = min (moreTo s j n most k) (most - (lostV j (s.getD k []) n : Nat)) := fun k => rfl
 have hm0 : moreTo s j n most 0 = most := rfl
 have hml := moreTo_le s j n most
 have hlv := fun k => lostV_le j (s.getD k []) n
 have hM : lim F 86 [iv most] = some (.bool true, []) := by
  rw [isMost_ok most, decide_eq_true ⟨h0, h1⟩]
 unfold openV at hO ⊢
 generalize l.map setV = es at *
 generalize hsm : s.map listV = sr at *
 generalize hjv : natsV j = jr at *
 refine lim_by (fn := a69) (k := 3) (res := [.cell 6 3 true, .tmp 7, .tmp 8, .tmp 9]) rfl rfl rfl (by simp -implicitDefEqProofs (maxSteps := 2000000) (disch := first | exact tt_rfl rfl | omega | (simp only [go_sem] <;> omega) | fail) only [go_sem]) ?_
 try delta mvA
 try delta opA
 try delta tA
 simp -implicitDefEqProofs (maxSteps := 2000000) (disch := first | exact tt_rfl rfl | omega | (simp only [go_sem] <;> omega) | fail) only [go_sem]
 repeat (first | apply Wp.seqA | apply Wp.skipS | apply Wp.blockS | ((first | apply Wp.regS | apply Wp.condV | apply Wp.reg | apply Wp.condW | apply fin_ret); simp -implicitDefEqProofs (maxSteps := 2000000) (disch := first | exact tt_rfl rfl | omega | (simp only [go_sem] <;> omega) | fail) only [go_sem, hO, hJ, hM, n1, n2, t2, P2, tS, ite_self] <;> try with_reducible rfl) | apply Wp.block | apply Wp.exitS | apply Wp.retS | apply Wp.exit | apply Wp.ret | apply Wp.skip)
 apply Wp.loopF l.length (fun k => ⟨[(2, iv most), (6, .ptr 384 0 0), (7, .slice 448 0 n), (8, iv (moreTo s j n most k)), (33, .slice 2112 0 l.length), (34, iv (l.length : Int)), (35, iv (k : Int))], [(384, .box [iv (hk : Int), .bool t, .slice 2112 0 l.length]), (448, .arr 1 jr), (2112, .arr 1 sr)], [], 10000000⟩) (fun _ => True)
 ·simp -implicitDefEqProofs (maxSteps := 2000000) (disch := first | exact tt_rfl rfl | omega | (simp only [go_sem] <;> omega) | fail) only [go_sem, norm_eq, Ok.some]
  rfl
 ·trivial
 intro k hk' _
 by_cases h' : k < l.length
 ·have a1 := hg k h'
  have a2 := hL0 k h'
  have a3 := hms k
  have a4 := hml k
  have a5 := hlv k
  have a6 : 24 * n ≤ 24 * 60 := by omega
  rw [a3]
  clear hO hJ hM hg hL0 hms hml hlv hsg
  generalize moreTo s j n most k = mk at *
  generalize lostV j (s.getD k []) n = lv at *
  generalize natsV (s.getD k []) = rk at *
  repeat (first | apply Wp.seqA | apply Wp.skipS | apply Wp.blockS | ((first | apply Wp.regS | apply Wp.condV | apply Wp.reg | apply Wp.condW | apply fin_ret); simp -implicitDefEqProofs (maxSteps := 2000000) (disch := first | exact tt_rfl rfl | omega | (simp only [go_sem] <;> omega) | fail) only [go_sem, h', Int.ofNat_lt, a1, a2, n1, n2, t2, P2] <;> try with_reducible rfl) | apply Wp.block | apply Wp.exitS | apply Wp.retS | apply Wp.exit | apply Wp.ret | apply Wp.skip)
  apply round_next
  ·simp -implicitDefEqProofs (maxSteps := 2000000) (disch := first | exact tt_rfl rfl | omega | (simp only [go_sem] <;> omega) | fail) only [go_sem, norm_eq, Ok.some]; with_reducible rfl
  exact ⟨h', by simp, trivial⟩
 ·obtain rfl : k = l.length := by omega
  by_cases hneg : moreTo s j n most l.length < 0
  ·rw [if_pos hneg]
   repeat (first | apply Wp.seqA | apply Wp.skipS | apply Wp.blockS | ((first | apply Wp.regS | apply Wp.condV | apply Wp.reg | apply Wp.condW | apply fin_ret); simp -implicitDefEqProofs (maxSteps := 2000000) (disch := first | exact tt_rfl rfl | omega | (simp only [go_sem] <;> omega) | fail) only [go_sem, Int.lt_irrefl, hneg, n1, n2, t2, P2, tS] <;> try with_reducible rfl) | apply Wp.block | apply Wp.exitS | apply Wp.retS | apply Wp.exit | apply Wp.ret | apply Wp.skip)
  ·rw [if_neg hneg]
   repeat (first | apply Wp.seqA | apply Wp.skipS | apply Wp.blockS | ((first | apply Wp.regS | apply Wp.condV | apply Wp.reg | apply Wp.condW | apply fin_ret); simp -implicitDefEqProofs (maxSteps := 2000000) (disch := first | exact tt_rfl rfl | omega | (simp only [go_sem] <;> omega) | fail) only [go_sem, Int.lt_irrefl, hneg, n1, n2, t2, P2, tS] <;> try with_reducible rfl) | apply Wp.block | apply Wp.exitS | apply Wp.retS | apply Wp.exit | apply Wp.ret | apply Wp.skip)
end Go.Abs
