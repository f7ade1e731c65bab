/-
 Several texts: TA, TM.
-/
import Derived.Test.YtgpbjihpkoiaiaaCS
import Derived.Test.YtgpbjihpkoiaiaaPrim
import Derived.KernelRfl
set_option linter.all false
namespace Go.Abs
set_option maxRecDepth 10000
set_option maxHeartbeats 2000000
structure HarN where
 hk : Nat
 ws : List Nat
abbrev HarN.av (h : HarN) : AV := .agg [iv (h.hk : Int), .list 1 (natsV h.ws)]
structure HarN.Ok (h : HarN) : Prop where
 h1 : 1 ≤ h.hk
 h24 : h.hk ≤ 24
 w1 : 1 ≤ h.ws.length
 w96 : h.ws.length ≤ 96
 lt : ∀ w ∈ h.ws, w < h.hk
def clothV (rows ws : List Nat) : List AV := rows.map fun r => strA (pickB r ws)
@[simp] theorem cloth_len (rows ws : List Nat) : (clothV rows ws).length = rows.length := by simp [clothV]
theorem twithin1_ok (lo hi n : Int) : lim F 133 [iv n, .iptr (.agg [iv lo]) 0, .iptr (.agg [iv hi]) 0] = some (.bool (decide (n < lo ∨ hi < n)), []) := by
 by_cases h1 : n < lo <;> by_cases h2 : hi < n
 all_goals
  refine lim_by (fn := a133) (k := 3) (res := [.tmp 4]) rfl rfl rfl (by simp -implicitDefEqProofs (maxSteps := 2000000) (disch := first | exact tt_rfl rfl | omega | (simp only [go_sem] <;> omega) | fail) only [go_sem]) ?_
  try delta mvA
  try delta opA
  try delta tA
  simp -implicitDefEqProofs (maxSteps := 2000000) (disch := first | exact tt_rfl rfl | omega | (simp only [go_sem] <;> omega) | fail) only [go_sem]
  repeat (first | apply Wp.seqA | apply Wp.skipS | apply Wp.blockS | ((first | apply Wp.regS | apply Wp.condV | apply Wp.reg | apply Wp.condW | apply fin_ret); simp -implicitDefEqProofs (maxSteps := 2000000) (disch := first | exact tt_rfl rfl | omega | (simp only [go_sem] <;> omega) | fail) only [go_sem, h1, h2] <;> try with_reducible rfl) | apply Wp.block | apply Wp.exitS | apply Wp.retS | apply Wp.exit | apply Wp.ret | apply Wp.skip)
theorem twithin_ok (lo hi : Int) (l : List Int) (hl : l.length < 1000000000) : lim F 78 [iv lo, iv hi, .list 1 (l.map fun n => iv n)] = some (.bool (l.all fun n => decide (lo ≤ n ∧ n ≤ hi)), []) := by
 have h := contains_ints l (fun n => decide (n < lo ∨ hi < n)) 133 (.agg [iv lo]) (.agg [iv hi]) hl (fun n _ => twithin1_ok lo hi n)
 refine lim_by (fn := a78) (k := 3) (res := [.tmp 6]) rfl rfl rfl (by simp -implicitDefEqProofs (maxSteps := 2000000) (disch := first | exact tt_rfl rfl | omega | (simp only [go_sem] <;> omega) | fail) only [go_sem]) ?_
 try delta mvA
 try delta opA
 try delta tA
 simp -implicitDefEqProofs (maxSteps := 2000000) (disch := first | exact tt_rfl rfl | omega | (simp only [go_sem] <;> omega) | fail) only [go_sem]
 repeat (first | apply Wp.seqA | apply Wp.skipS | apply Wp.blockS | ((first | apply Wp.regS | apply Wp.condV | apply Wp.reg | apply Wp.condW | apply fin_ret); simp -implicitDefEqProofs (maxSteps := 2000000) (disch := first | exact tt_rfl rfl | omega | (simp only [go_sem] <;> omega) | fail) only [go_sem, h] <;> try with_reducible rfl) | apply Wp.block | apply Wp.exitS | apply Wp.retS | apply Wp.exit | apply Wp.ret | apply Wp.skip)
 simp only [Option.some.injEq, Prod.mk.injEq, AV.bool.injEq, and_true];rw [List.any_eq_not_all_not, Bool.not_not]
 congr 1
 funext n;by_cases h1 : n < lo <;> by_cases h2 : hi < n <;> simp [h1, h2] <;> omega
theorem twithin_one (lo hi n : Int) : lim F 78 [iv lo, iv hi, .list 1 [iv n]] = some (.bool (decide (lo ≤ n ∧ n ≤ hi)), []) := by
 have h := twithin_ok lo hi [n] (by simp)
 simpa using h
theorem twithin_nats (n : Nat) (l : List Nat) (hl : l.length ≤ 1000000) (h : ∀ r ∈ l, r < n) : lim F 78 [iv 0, iv ((n : Int) - 1), .list 1 (natsV l)] = some (.bool true, []) := by
 have hw := twithin_ok 0 ((n : Int) - 1) (l.map fun n : Nat => (n : Int)) (by simp; omega)
 rw [List.map_map] at hw;have : ((l.map fun n : Nat => (n : Int)).all fun m => decide (0 ≤ m ∧ m ≤ (n : Int) - 1)) = true := by
  rw [List.all_eq_true];intro m hm;obtain ⟨r, hr, rfl⟩ := List.mem_map.1 hm;have := h r hr;exact decide_eq_true ⟨by omega, by omega⟩
 rw [this] at hw;exact hw
theorem tCheck_ok (h : HarN) (ho : h.Ok) : lim F 68 [h.av] = some (iv 0, []) := by
 have h1 := ho.h1;have h24 := ho.h24;have w1 := ho.w1;have w96 := ho.w96;have hw := twithin_nats h.hk h.ws (by omega) ho.lt
 have hw2 := twithin_one 1 24 (h.hk : Int);rw [decide_eq_true (show (1 : Int) ≤ (h.hk : Int) ∧ (h.hk : Int) ≤ 24 by omega)] at hw2
 have hln : (natsV h.ws).length = h.ws.length := by simp
 unfold HarN.av;generalize natsV h.ws = es at *;refine lim_by (fn := a68) (k := 1) (res := [.tmp 2]) rfl rfl rfl (by simp -implicitDefEqProofs (maxSteps := 2000000) (disch := first | exact tt_rfl rfl | omega | (simp only [go_sem] <;> omega) | fail) only [go_sem]) ?_
 try delta mvA
 try delta opA
 try delta tA
 simp -implicitDefEqProofs (maxSteps := 2000000) (disch := first | exact tt_rfl rfl | omega | (simp only [go_sem] <;> omega) | fail) only [go_sem]
 repeat (first | apply Wp.seqA | apply Wp.skipS | apply Wp.blockS | ((first | apply Wp.regS | apply Wp.condV | apply Wp.reg | apply Wp.condW | apply fin_ret); simp -implicitDefEqProofs (maxSteps := 2000000) (disch := first | exact tt_rfl rfl | omega | (simp only [go_sem] <;> omega) | fail) only [go_sem, hw, hw2, hln, show ¬ (96 : Int) < h.ws.length by omega, show ¬ (h.ws.length : Int) = 0 by omega] <;> try with_reducible rfl) | apply Wp.block | apply Wp.exitS | apply Wp.retS | apply Wp.exit | apply Wp.ret | apply Wp.skip)
theorem warps_of (l : List Nat) (h : ∀ w ∈ l, w < 63) : mapO warpOf (natsV l) = some l := by
 induction l with
 | nil => rfl
 | cons w l ih =>
  have h1 : warpOf (iv (w : Int)) = some w := by
   have := h w (by simp)
   simp only [warpOf];rw [if_pos ⟨by omega, by omega⟩]
   simp
  have h2 := ih fun x hx => h x (List.mem_cons_of_mem _ hx)
  unfold natsV at h2 ⊢;simp only [List.map_cons, mapO, h1, h2]
theorem tpick_ok (hk : Int) (ws : List Nat) (row : Nat) (h : ∀ w ∈ ws, w < 63) (hl : ws.length ≤ 1000) (hr : row < 9223372036854775808) :
  lim F 70 [.agg [iv hk, .list 1 (natsV ws)], iv (row : Int)] = some (strA (pickB row ws), []) :=
 lim_prim2 (f := tieV) rfl (by
  simp only [tieV, warps_of ws h];rw [if_pos ⟨by omega, by omega, by simpa using hl⟩]
  simp)
theorem tWeave_ok (h : HarN) (ho : h.Ok) (d : DesN) (hd : d.Ok) (he : d.hk = h.hk) : lim F 23 [h.av, d.av] = some (.tuple [.own 1 (clothV d.rows h.ws), iv 0], []) := by
 have h24 := ho.h24;have hc1 := tCheck_ok h ho;have hc2 := Check_ok d.a (by have := hd.r60; simp [DesN.a]; omega)
 rw [checkD_ok hd, DesN.a_av] at hc2;have p1 : 2 ^ d.hk ≤ 2 ^ 24 := Nat.pow_le_pow_right (by omega) (by omega)
 have hgd : ∀ i (hi : i < d.rows.length), d.rows[i] = d.rows.getD i 0 := fun i hi => by rw [List.getD_eq_getElem?_getD, List.getElem?_eq_getElem hi]; rfl
 have hp : ∀ i, i < d.rows.length → lim F 70 [.agg [iv (h.hk : Int), .list 1 (natsV h.ws)], iv ((d.rows.getD i 0 : Nat) : Int)] = some (strA (pickB (d.rows.getD i 0) h.ws), []) := fun i hi =>
  tpick_ok _ _ _ (fun w hw => by have := ho.lt w hw; omega) (by have := ho.w96; omega) (by rw [← hgd i hi]; have := hd.lt _ (List.getElem_mem hi); omega)
 have hg : ∀ i, i < d.rows.length → (natsV d.rows)[i]? = some (iv ((d.rows.getD i 0 : Nat) : Int)) := fun i hi => by
  unfold natsV; rw [List.getElem?_map, List.getElem?_eq_getElem hi, ← hgd i hi]; rfl
 have hln : (natsV d.rows).length = d.rows.length := by simp
 unfold DesN.av at hc2 ⊢;unfold HarN.av at hc1 ⊢;change lim F _ [.agg [iv (d.hk : Int), .list 1 (natsV d.rows)]] = _ at hc2;change lim F _ [_, .agg [iv (d.hk : Int), .list 1 (natsV d.rows)]] = _;have h60 := hd.r60;rw [he] at hc2 ⊢;have hst : ∀ i, i < d.rows.length → clothV (d.rows.take (i + 1)) h.ws = clothV (d.rows.take i) h.ws ++ [strA (pickB (d.rows.getD i 0) h.ws)] := fun i hi => by
  unfold clothV;rw [List.take_succ_eq_append_getElem hi, List.map_append, ← hgd i hi]; rfl
 have hC : ∀ i, i ≤ d.rows.length → (clothV (d.rows.take i) h.ws).length = i := fun i hi => by simp; omega
 have hall : clothV (d.rows.take d.rows.length) h.ws = clothV d.rows h.ws := by rw [List.take_length]
 clear hgd;generalize hn : d.rows.length = n at *;generalize natsV d.rows = rv at *;generalize natsV h.ws = wv at *;refine lim_by (fn := a23) (k := 2) (res := [.tmp 4, .tmp 5]) rfl rfl rfl (by simp -implicitDefEqProofs (maxSteps := 2000000) (disch := first | exact tt_rfl rfl | omega | (simp only [go_sem] <;> omega) | fail) only [go_sem]) ?_
 try delta mvA
 try delta opA
 try delta tA
 simp -implicitDefEqProofs (maxSteps := 2000000) (disch := first | exact tt_rfl rfl | omega | (simp only [go_sem] <;> omega) | fail) only [go_sem]
 repeat (first | apply Wp.seqA | apply Wp.skipS | apply Wp.blockS | ((first | apply Wp.regS | apply Wp.condV | apply Wp.reg | apply Wp.condW | apply fin_ret); simp -implicitDefEqProofs (maxSteps := 2000000) (disch := first | exact tt_rfl rfl | omega | (simp only [go_sem] <;> omega) | fail) only [go_sem, hc1, hc2, hln] <;> try with_reducible rfl) | apply Wp.block | apply Wp.exitS | apply Wp.retS | apply Wp.exit | apply Wp.ret | apply Wp.skip)
 apply Wp.loopF n (fun i => ⟨[(2, .ptr 128 0 0), (4, .slice 256 0 i), (28, .list 1 rv), (29, iv (n : Int)), (30, iv (i : Int))], [(128, .box [iv (h.hk : Int), .list 1 wv]), (256, .arr 1 (clothV (d.rows.take i) h.ws))], [], 10000000⟩) (fun _ => True)
 ·simp -implicitDefEqProofs (maxSteps := 2000000) (disch := first | exact tt_rfl rfl | omega | (simp only [go_sem] <;> omega) | fail) only [go_sem, norm_eq, Ok.some]
  rfl
 ·trivial
 intro i hi _;have n1 := hC i hi;by_cases h' : i < n
 ·have a1 := hg i h'
  have a2 := hp i h';have a3 := hst i h';rw [a3];generalize pickB (d.rows.getD i 0) h.ws = sb at *;generalize d.rows.getD i 0 = r at *;generalize clothV (d.rows.take i) h.ws = L at *;clear hg hp hst hC;have t1 : L.take i = L := List.take_of_length_le (by omega)
  repeat (first | apply Wp.seqA | apply Wp.skipS | apply Wp.blockS | ((first | apply Wp.regS | apply Wp.condV | apply Wp.reg | apply Wp.condW | apply fin_ret); simp -implicitDefEqProofs (maxSteps := 2000000) (disch := first | exact tt_rfl rfl | omega | (simp only [go_sem] <;> omega) | fail) only [go_sem, h', Int.ofNat_lt, a1, a2, n1, t1, hln, Int.toNat_natCast] <;> try with_reducible rfl) | apply Wp.block | apply Wp.exitS | apply Wp.retS | apply Wp.exit | apply Wp.ret | apply Wp.skip)
  apply round_next
  ·simp -implicitDefEqProofs (maxSteps := 2000000) (disch := first | exact tt_rfl rfl | omega | (simp only [go_sem] <;> omega) | fail) only [go_sem, norm_eq, Ok.some]; with_reducible rfl
  exact ⟨h', by simp, trivial⟩
 ·obtain rfl : i = n := by omega
  rw [hall] at n1 ⊢;generalize clothV d.rows h.ws = L at *;clear hg hp hst hC;have t1 : L.take i = L := List.take_of_length_le (by omega)
  repeat (first | apply Wp.seqA | apply Wp.skipS | apply Wp.blockS | ((first | apply Wp.regS | apply Wp.condV | apply Wp.reg | apply Wp.condW | apply fin_ret); simp -implicitDefEqProofs (maxSteps := 2000000) (disch := first | exact tt_rfl rfl | omega | (simp only [go_sem] <;> omega) | fail) only [go_sem, h', Int.ofNat_lt, n1, t1, hln] <;> try with_reducible rfl) | apply Wp.block | apply Wp.exitS | apply Wp.retS | apply Wp.exit | apply Wp.ret | apply Wp.skip)
end Go.Abs
set_option linter.all false
namespace Go.Abs
set_option maxRecDepth 100000
set_option maxHeartbeats 4000000
def strW (hk t : Nat) : List Nat := (List.replicate t (List.range hk)).flatten
noncomputable def mkOne (hk t : Nat) : Bool := match evalCall F 60 31 [iv (hk : Int), .list 4 [.agg [iv 0, iv ((hk : Int) - 1), iv 1, iv (t : Int)]]] with
 | some (r, []) => AV.beq r (.tuple [.agg [iv (hk : Int), .own 1 (natsV (strW hk t))], iv 0, iv 0])
 | _ => false
noncomputable def mkChk (t : Nat) : Bool := (List.range 12).all fun k => mkOne (k + 1) t
theorem Make_of {hk t : Nat} (h4 : mkOne hk t = true) : lim F 31 [iv (hk : Int), .list 4 [.agg [iv 0, iv ((hk : Int) - 1), iv 1, iv (t : Int)]]] = some (.tuple [.agg [iv (hk : Int), .own 1 (natsV (strW hk t))], iv 0, iv 0], []) := by
 unfold mkOne at h4;split at h4
 ·rename_i r hr
  rw [AV.beq_eq _ _ h4] at hr;exact lim_of_eval hr
 ·cases h4
theorem strW_len (hk t : Nat) : (strW hk t).length = t * hk := by
 unfold strW;rw [List.length_flatten, List.map_replicate, List.sum_replicate_nat, List.length_range]
theorem strW_lt (hk t : Nat) : ∀ w ∈ strW hk t, w < hk := fun w hw => by
 unfold strW at hw;rw [List.mem_flatten] at hw;obtain ⟨l, hl, hw⟩ := hw;rw [List.eq_of_mem_replicate hl] at hw;simpa using hw
theorem strW_at (hk : Nat) : ∀ (t i : Nat), i < t * hk → (strW hk t)[i]? = some (i % hk)
 | 0, i, h => by omega
 | t + 1, i, h => by
  have e : strW hk (t + 1) = List.range hk ++ strW hk t := by simp [strW, List.replicate_succ]
  rw [e];by_cases hi : i < hk
  ·rw [List.getElem?_append_left (by simpa using hi), List.getElem?_range hi, Nat.mod_eq_of_lt hi]
  ·rw [List.getElem?_append_right (by simpa using hi), List.length_range, strW_at hk t (i - hk) (by rw [Nat.succ_mul] at h; omega)]
   rw [Nat.mod_eq_sub_mod (show i ≥ hk by omega)]
theorem straight_ok {hk t : Nat} (h1 : 1 ≤ hk) (h2 : hk ≤ 24) (t1 : 1 ≤ t) (h3 : t * hk ≤ 96) : (⟨hk, strW hk t⟩ : HarN).Ok where
 h1 := h1
 h24 := h2
 w1 := by rw [strW_len]; exact Nat.mul_pos t1 h1
 w96 := by rw [strW_len]; exact h3
 lt := strW_lt hk t
@[simp] theorem pick_len (r : Nat) (ws : List Nat) : (pickB r ws).length = ws.length := by simp [pickB]
theorem cloth_at {rows ws : List Nat} {i : Nat} (h : i < rows.length) : (clothV rows ws)[i]? = some (strA (pickB (rows.getD i 0) ws)) := by
 unfold clothV;rw [List.getElem?_map, List.getElem?_eq_getElem h, List.getD_eq_getElem?_getD, List.getElem?_eq_getElem h]; rfl
theorem cloth_bad {rows ws : List Nat} (h : 1 ≤ rows.length) : (clothV rows ws).all AV.plain = false := by
 rw [List.all_eq_false];exact ⟨_, List.mem_of_getElem? (cloth_at (i := 0) (by omega)), by simp [AV.plain, AV.plain1]⟩
end Go.Abs
