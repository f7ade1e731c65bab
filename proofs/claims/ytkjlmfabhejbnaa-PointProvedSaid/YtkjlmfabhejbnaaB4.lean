/-
 Chapter 1: Bind. No condition beyond those that each theorem names.
-/
import Derived.Test.YtkjlmfabhejbnaaB2
set_option linter.all false
namespace Go.Abs
set_option maxRecDepth 10000
set_option maxHeartbeats 4000000

/-- rows and what must stay of each -/
def bRow (d : DesN) (fx : List Nat) (b i : Nat) : Nat := bindRow (d.rows.getD i 0) (fx.getD i 0) d.hk b
def bChg (d : DesN) (fx : List Nat) (b i : Nat) : Nat := bindChg (d.rows.getD i 0) (fx.getD i 0) d.hk b
def bSum (d : DesN) (fx : List Nat) (b : Nat) : Nat → Nat
 | 0 => 0
 | i + 1 => bSum d fx b i + bChg d fx b i
def bindN (d : DesN) (fx : List Nat) (b : Nat) : DesN := ⟨d.hk, (List.range d.rows.length).map (bRow d fx b)⟩
/-- each row can be bound -/
def bAll (d : DesN) (fx : List Nat) (b n : Nat) : Prop := ∀ i, i < n → bChg d fx b i < never
theorem bSum_le {d : DesN} {fx : List Nat} {b : Nat} (hd : d.Ok) (hb : 1 ≤ b) {n : Nat} (h : bAll d fx b n) : bSum d fx b n ≤ n * 24 := by
 induction n with
 | zero => simp [bSum]
 | succ n ih =>
  have h1 := ih fun i hi => h i (by omega)
  have h2 := bind_best (row := d.rows.getD n 0) (fixed := fx.getD n 0) hb hd.h1 hd.h24 (h n (by omega))
  have h3 := chgN_le (bindRow (d.rows.getD n 0) (fx.getD n 0) d.hk b) (d.rows.getD n 0) d.hk
  rw [h2.chg] at h3
  have := hd.h24
  unfold bSum bChg
  omega
structure FixOk (d : DesN) (fx : List Nat) : Prop where
 len : fx.length = d.rows.length
 lt : ∀ r ∈ fx, r < 2 ^ d.hk
theorem FixOk.get {d : DesN} {fx : List Nat} (h : FixOk d fx) {i : Nat} (hi : i < d.rows.length) : fx.getD i 0 < 2 ^ d.hk := by
 have hl := h.len
 have := h.lt _ (List.getElem_mem (show i < fx.length by omega))
 rw [List.getD_eq_getElem?_getD, List.getElem?_eq_getElem (show i < fx.length by omega)]
 exact this
theorem within_nats (n : Nat) (l : List Nat) (hl : l.length ≤ 1000000) (h : ∀ r ∈ l, r < n) : lim F 60 [iv 0, iv ((n : Int) - 1), .list 1 (natsV l)] = some (.bool true, []) := by
 have hw := within_ok 0 ((n : Int) - 1) (l.map fun n : Nat => (n : Int)) (by simp; omega)
 rw [List.map_map] at hw
 have : ((l.map fun n : Nat => (n : Int)).all fun m => decide (0 ≤ m ∧ m ≤ (n : Int) - 1)) = true := by
  rw [List.all_eq_true]
  intro m hm
  obtain ⟨r, hr, rfl⟩ := List.mem_map.1 hm
  have := h r hr
  exact decide_eq_true ⟨by omega, by omega⟩
 rw [this] at hw
 exact hw
theorem Bind_ok (d : DesN) (hd : d.Ok) (fx : List Nat) (hf : FixOk d fx) (b : Nat) (hb : 1 ≤ b ∧ b ≤ 24) (v : AV) (hv1 : bAll d fx b d.rows.length → v = .tuple [.agg [iv (d.hk : Int), .own 1 (natsV (bindN d fx b).rows)], iv ((bSum d fx b d.rows.length : Nat) : Int), iv 0]) (hv2 : ¬ bAll d fx b d.rows.length → v = .tuple [.agg [iv 0, .own 1 []], iv 0, iv 9]) : lim F 27 [d.av, .list 1 (natsV fx), iv (b : Int)] = some (v, []) := by
 have h24 := hd.h24
 have h1 := hd.h1
 have h60 := hd.r60
 have p1 : 2 ^ d.hk ≤ 2 ^ 24 := Nat.pow_le_pow_right (by omega) (by omega)
 have hc := Check_ok d.a (by simp [DesN.a]; omega)
 rw [checkD_ok hd, DesN.a_av] at hc
 have hw := within_nats (2 ^ d.hk) fx (by have := hf.len; omega) hf.lt
 have hw2 := within_one 1 24 (b : Int)
 rw [decide_eq_true (show (1 : Int) ≤ (b : Int) ∧ (b : Int) ≤ 24 by omega)] at hw2
 have s1 := w_shl1 d.hk (by omega)
 have hln : (natsV d.rows).length = d.rows.length := by simp
 have hlf : (natsV fx).length = d.rows.length := by simp [hf.len]
 have hg : ∀ i, i < d.rows.length → (natsV d.rows)[i]? = some (iv ((d.rows.getD i 0 : Nat) : Int)) := fun i hi => nats_at hi
 have hgf : ∀ i, i < d.rows.length → (natsV fx)[i]? = some (iv ((fx.getD i 0 : Nat) : Int)) := fun i hi => nats_at (by rw [hf.len]; exact hi)
 have hB : ∀ i, i < d.rows.length → ∃ t K V, lim F 64 [.bor [iv ((d.rows.getD i 0 : Nat) : Int), iv ((fx.getD i 0 : Nat) : Int), iv (d.hk : Int), iv (b : Int), .bool false, .const (.map none)]] = some (.tuple [iv ((if never ≤ bChg d fx b i then 0 else bRow d fx b i : Nat) : Int), iv ((bChg d fx b i : Nat) : Int)], [.bor [iv ((d.rows.getD i 0 : Nat) : Int), iv ((fx.getD i 0 : Nat) : Int), iv (d.hk : Int), iv (b : Int), .bool t, .ownM ksB K V]]) := fun i hi => by
  have l1 := hd.lt _ (List.getElem_mem hi)
  rw [← rows_get hi] at l1
  have l2 := hf.get hi
  obtain ⟨r, hr, t, K, V, rfl⟩ := bind_ok (d.rows.getD i 0) (fx.getD i 0) d.hk b (by omega) (by omega) hb.1 hb.2 (by omega) (by omega)
  exact ⟨t, K, V, hr⟩
 have hcl : ∀ i, bChg d fx b i ≤ 1048576 := fun i => Nat.min_le_left _ _
 have hsm : ∀ i, bAll d fx b i → bSum d fx b i ≤ i * 24 := fun i h => bSum_le hd hb.1 h
 have hnv : never = 1048576 := rfl
 have hst : ∀ i, natsV ((List.range (i + 1)).map (bRow d fx b)) = natsV ((List.range i).map (bRow d fx b)) ++ [iv ((bRow d fx b i : Nat) : Int)] := fun i => by
  unfold natsV; rw [List.range_succ, List.map_append, List.map_append]; rfl
 have hRl : ∀ i, (natsV ((List.range i).map (bRow d fx b))).length = i := fun i => by simp
 have hpl : ∀ i, (natsV ((List.range i).map (bRow d fx b))).all AV.plain = true := fun i => nat_plain _
 have hss : ∀ i, bSum d fx b (i + 1) = bSum d fx b i + bChg d fx b i := fun i => rfl
 have hf0 : bSum d fx b 0 = 0 := rfl
 unfold DesN.av bindN at *
 change lim F _ [.agg [_, .list 1 (natsV d.rows)]] = _ at hc
 change lim F _ [.agg [_, .list 1 (natsV d.rows)], _, _] = _
 generalize natsV d.rows = rs at *
 generalize natsV fx = fs at *
 have p2 : 0 < 2 ^ d.hk := Nat.pow_pos (by omega)
 generalize 2 ^ d.hk = pw at *
 refine lim_by (fn := a27) (k := 3) (res := [.cell 6 2 true, .tmp 7, .tmp 8]) rfl rfl rfl (by simp -implicitDefEqProofs (maxSteps := 2000000) (disch := first | exact tt_rfl rfl | omega | (simp only [go_sem] <;> omega) | fail) only [go_sem]) ?_
 simp -implicitDefEqProofs (maxSteps := 2000000) (disch := first | exact tt_rfl rfl | omega | (simp only [go_sem] <;> omega) | fail) only [go_sem]
 repeat (first | apply Wp.seqA | apply Wp.skipS | apply Wp.blockS | ((first | apply Wp.regS | apply Wp.condV | apply Wp.reg | apply Wp.condW | apply fin_ret); simp -implicitDefEqProofs (maxSteps := 2000000) (disch := first | exact tt_rfl rfl | omega | (simp only [go_sem] <;> omega) | fail) only [go_sem, hc, hw, hw2, s1, hln, hlf, Int.toNat_natCast] <;> try with_reducible rfl) | apply Wp.block | apply Wp.exitS | apply Wp.retS | apply Wp.exit | apply Wp.ret | apply Wp.skip)
 apply Wp.loopF d.rows.length (fun i => ⟨[(1, .list 1 fs), (2, iv (b : Int)), (3, .ptr 192 0 0), (6, .ptr 384 0 0), (7, iv ((bSum d fx b i : Nat) : Int)), (48, .list 1 rs), (49, iv (d.rows.length : Int)), (50, iv (i : Int))], [(192, .box [iv (d.hk : Int), .list 1 rs]), (384, .box [iv (d.hk : Int), .slice 306145 0 i]), (306145, .arr 1 (natsV ((List.range i).map (bRow d fx b))))], [], 10000000⟩) (fun i => bAll d fx b i)
 ·simp -implicitDefEqProofs (maxSteps := 2000000) (disch := first | exact tt_rfl rfl | omega | (simp only [go_sem] <;> omega) | fail) only [go_sem, norm_eq, Ok.some]
  rfl
 ·intro j hj; omega
 intro i hi hA
 by_cases h : i < d.rows.length
 ·obtain ⟨t, K, V, hBi⟩ := hB i h
  have g1 := hg i h
  have g2 := hgf i h
  have hs := hst i
  have hl := hRl i
  have hc1 := hcl i
  have hs1 := hsm i hA
  have hs2 := hss i
  by_cases hn : never ≤ bChg d fx b i
  ·rw [if_pos hn] at hBi
   have hce : bChg d fx b i = 1048576 := by omega
   have hno : ¬ bAll d fx b d.rows.length := fun h' => by have := h' i h; omega
   rw [hv2 hno]
   rw [hce] at hBi
   clear hB hg hgf hst hRl hcl hsm hss hv1 hv2
   generalize natsV ((List.range i).map (bRow d fx b)) = es at *
   generalize bSum d fx b i = sm at *
   generalize d.rows.getD i 0 = r0 at *
   generalize fx.getD i 0 = f0 at *
   repeat (first | apply Wp.seqA | apply Wp.skipS | apply Wp.blockS | ((first | apply Wp.regS | apply Wp.condV | apply Wp.reg | apply Wp.condW | apply fin_ret); simp -implicitDefEqProofs (maxSteps := 2000000) (disch := first | exact tt_rfl rfl | omega | (simp only [go_sem] <;> omega) | fail) only [go_sem, h, Int.ofNat_lt, g1, g2, hBi, hln, hlf, Int.natCast_zero, Int.toNat_natCast] <;> try with_reducible rfl) | apply Wp.block | apply Wp.exitS | apply Wp.retS | apply Wp.exit | apply Wp.ret | apply Wp.skip)
  ·rw [if_neg hn] at hBi
   have hA2 : bAll d fx b (i + 1) := fun j hj => by
    rcases Nat.lt_or_ge j i with h1 | h1
    ·exact hA j h1
    ·have : j = i := by omega
     subst this; omega
   clear hB hg hgf hst hRl hcl hsm hss hv1 hv2
   generalize natsV ((List.range i).map (bRow d fx b)) = es at *
   generalize natsV ((List.range (i + 1)).map (bRow d fx b)) = es' at *
   generalize bSum d fx b (i + 1) = sm' at *
   generalize bSum d fx b i = sm at *
   generalize bChg d fx b i = c at *
   generalize bRow d fx b i = r1 at *
   generalize d.rows.getD i 0 = r0 at *
   generalize fx.getD i 0 = f0 at *
   repeat (first | apply Wp.seqA | apply Wp.skipS | apply Wp.blockS | ((first | apply Wp.regS | apply Wp.condV | apply Wp.reg | apply Wp.condW | apply fin_ret); simp -implicitDefEqProofs (maxSteps := 2000000) (disch := first | exact tt_rfl rfl | omega | (simp only [go_sem] <;> omega) | fail) only [go_sem, h, Int.ofNat_lt, g1, g2, hBi, hln, hlf, hl, show ¬ (1048576 : Int) ≤ (c : Int) by omega, Int.toNat_natCast] <;> try with_reducible rfl) | apply Wp.block | apply Wp.exitS | apply Wp.retS | apply Wp.exit | apply Wp.ret | apply Wp.skip)
   apply round_next
   ·simp -implicitDefEqProofs (maxSteps := 2000000) (disch := first | exact tt_rfl rfl | omega | (simp only [go_sem] <;> omega) | fail) only [go_sem, norm_eq, Ok.some]; with_reducible rfl
   refine ⟨h, ?_, hA2⟩
   rw [hs, hs2]
   simp
 ·obtain rfl : i = d.rows.length := by omega
  rw [hv1 hA]
  have hl := hRl d.rows.length
  have hp := hpl d.rows.length
  have etk : (natsV ((List.range d.rows.length).map (bRow d fx b))).take d.rows.length = natsV ((List.range d.rows.length).map (bRow d fx b)) := List.take_of_length_le (by omega)
  generalize natsV ((List.range d.rows.length).map (bRow d fx b)) = es at *
  repeat (first | apply Wp.seqA | apply Wp.skipS | apply Wp.blockS | ((first | apply Wp.regS | apply Wp.condV | apply Wp.reg | apply Wp.condW | apply fin_ret); simp -implicitDefEqProofs (maxSteps := 2000000) (disch := first | exact tt_rfl rfl | omega | (simp only [go_sem] <;> omega) | fail) only [go_sem, Int.lt_irrefl, hl, hp, etk] <;> try with_reducible rfl) | apply Wp.block | apply Wp.exitS | apply Wp.retS | apply Wp.exit | apply Wp.ret | apply Wp.skip)

theorem Bind_bad (d : DesA) (hl : d.rows.length ≤ 1000000) (fx : List Int) (hl2 : fx.length ≤ 1000000) (b : Int) (e : Int) (he : e ≠ 0) (h : e = if checkD d ≠ 0 then checkD d else if fx.length ≠ d.rows.length then 4 else if ¬ (fx.all fun n => decide (rowOk d.hk n)) then 2 else if ¬ (1 ≤ b ∧ b ≤ 24) then 3 else 0) : lim F 27 [d.av, .list 1 (fx.map fun n => iv n), iv b] = some (.tuple [.agg [iv 0, .own 1 []], iv 0, iv e], []) := by
 have hc := Check_ok d hl
 have w2 := within_one 1 24 b
 by_cases hcd : checkD d = 0
 ·rw [if_neg (by simpa using hcd)] at h
  rw [hcd] at hc
  have hlf : (fx.map fun n => iv n).length = fx.length := by simp
  have hlr : (d.rows.map fun n => iv n).length = d.rows.length := by simp
  by_cases hlen : fx.length ≠ d.rows.length
  ·rw [if_pos hlen] at h
   subst h
   unfold DesA.av at *
   generalize d.rows.map (fun n => iv n) = rs at *
   generalize fx.map (fun n => iv n) = fs at *
   refine lim_by (fn := a27) (k := 3) (res := [.cell 6 2 true, .tmp 7, .tmp 8]) rfl rfl rfl (by simp -implicitDefEqProofs (maxSteps := 2000000) (disch := first | exact tt_rfl rfl | omega | (simp only [go_sem] <;> omega) | fail) only [go_sem]) ?_
   simp -implicitDefEqProofs (maxSteps := 2000000) (disch := first | exact tt_rfl rfl | omega | (simp only [go_sem] <;> omega) | fail) only [go_sem]
   repeat (first | apply Wp.seqA | apply Wp.skipS | apply Wp.blockS | ((first | apply Wp.regS | apply Wp.condV | apply Wp.reg | apply Wp.condW | apply fin_ret); simp -implicitDefEqProofs (maxSteps := 2000000) (disch := first | exact tt_rfl rfl | omega | (simp only [go_sem] <;> omega) | fail) only [go_sem, hc, hlf, hlr, show ¬ (fx.length : Int) = (d.rows.length : Int) by omega] <;> try with_reducible rfl) | apply Wp.block | apply Wp.exitS | apply Wp.retS | apply Wp.exit | apply Wp.ret | apply Wp.skip)
  ·rw [if_neg hlen] at h
   have hlen' : fx.length = d.rows.length := Decidable.of_not_not hlen
   obtain ⟨n, hn, rfl⟩ := checkD_zero hcd
   have h24 := hn.h24
   have hw := within_ok 0 (((2 ^ n.hk : Nat) : Int) - 1) fx (by omega)
   have p1 : 2 ^ n.hk ≤ 2 ^ 24 := Nat.pow_le_pow_right (by omega) (by omega)
   have p2 : 0 < 2 ^ n.hk := Nat.pow_pos (by omega)
   have s1 := w_shl1 n.hk (by omega)
   have hkk : n.a.hk = (n.hk : Int) := rfl
   have e0 : (fx.all fun m => decide (rowOk n.a.hk m)) = (fx.all fun m => decide (0 ≤ m ∧ m ≤ ((2 ^ n.hk : Nat) : Int) - 1)) := by rw [hkk]; rfl
   rw [e0] at h
   have hal : n.a.rows.length = n.rows.length := by simp [DesN.a]
   rw [hal] at hlen'
   rw [hlen'] at hlf
   have hlr : (n.rows.map fun n : Nat => iv (n : Int)).length = n.rows.length := by simp
   rw [DesN.a_av n] at hc ⊢
   unfold DesN.av at *
   generalize n.rows.map (fun n : Nat => iv (n : Int)) = rs at *
   generalize fx.map (fun n => iv n) = fs at *
   generalize 2 ^ n.hk = pw at *
   cases ha : fx.all fun m => decide (0 ≤ m ∧ m ≤ (pw : Int) - 1) with
   | false =>
    rw [ha] at hw h
    rw [if_pos (by simp)] at h
    subst h
    refine lim_by (fn := a27) (k := 3) (res := [.cell 6 2 true, .tmp 7, .tmp 8]) rfl rfl rfl (by simp -implicitDefEqProofs (maxSteps := 2000000) (disch := first | exact tt_rfl rfl | omega | (simp only [go_sem] <;> omega) | fail) only [go_sem]) ?_
    simp -implicitDefEqProofs (maxSteps := 2000000) (disch := first | exact tt_rfl rfl | omega | (simp only [go_sem] <;> omega) | fail) only [go_sem]
    repeat (first | apply Wp.seqA | apply Wp.skipS | apply Wp.blockS | ((first | apply Wp.regS | apply Wp.condV | apply Wp.reg | apply Wp.condW | apply fin_ret); simp -implicitDefEqProofs (maxSteps := 2000000) (disch := first | exact tt_rfl rfl | omega | (simp only [go_sem] <;> omega) | fail) only [go_sem, hc, hlf, hlr, hw, s1, Int.toNat_natCast] <;> try with_reducible rfl) | apply Wp.block | apply Wp.exitS | apply Wp.retS | apply Wp.exit | apply Wp.ret | apply Wp.skip)
   | true =>
    rw [ha] at hw h
    rw [if_neg (by simp)] at h
    by_cases hb : 1 ≤ b ∧ b ≤ 24
    ·rw [if_neg (by simpa using hb)] at h
     exact absurd h he
    ·rw [if_pos hb] at h
     rw [decide_eq_false hb] at w2
     subst h
     refine lim_by (fn := a27) (k := 3) (res := [.cell 6 2 true, .tmp 7, .tmp 8]) rfl rfl rfl (by simp -implicitDefEqProofs (maxSteps := 2000000) (disch := first | exact tt_rfl rfl | omega | (simp only [go_sem] <;> omega) | fail) only [go_sem]) ?_
     simp -implicitDefEqProofs (maxSteps := 2000000) (disch := first | exact tt_rfl rfl | omega | (simp only [go_sem] <;> omega) | fail) only [go_sem]
     repeat (first | apply Wp.seqA | apply Wp.skipS | apply Wp.blockS | ((first | apply Wp.regS | apply Wp.condV | apply Wp.reg | apply Wp.condW | apply fin_ret); simp -implicitDefEqProofs (maxSteps := 2000000) (disch := first | exact tt_rfl rfl | omega | (simp only [go_sem] <;> omega) | fail) only [go_sem, hc, hlf, hlr, hw, w2, s1, Int.toNat_natCast] <;> try with_reducible rfl) | apply Wp.block | apply Wp.exitS | apply Wp.retS | apply Wp.exit | apply Wp.ret | apply Wp.skip)
 ·rw [if_pos hcd] at h
  subst h
  unfold DesA.av at *
  generalize checkD d = c at *
  refine lim_by (fn := a27) (k := 3) (res := [.cell 6 2 true, .tmp 7, .tmp 8]) rfl rfl rfl (by simp -implicitDefEqProofs (maxSteps := 2000000) (disch := first | exact tt_rfl rfl | omega | (simp only [go_sem] <;> omega) | fail) only [go_sem]) ?_
  simp -implicitDefEqProofs (maxSteps := 2000000) (disch := first | exact tt_rfl rfl | omega | (simp only [go_sem] <;> omega) | fail) only [go_sem]
  repeat (first | apply Wp.seqA | apply Wp.skipS | apply Wp.blockS | ((first | apply Wp.regS | apply Wp.condV | apply Wp.reg | apply Wp.condW | apply fin_ret); simp -implicitDefEqProofs (maxSteps := 2000000) (disch := first | exact tt_rfl rfl | omega | (simp only [go_sem] <;> omega) | fail) only [go_sem, hc, hcd] <;> try with_reducible rfl) | apply Wp.block | apply Wp.exitS | apply Wp.retS | apply Wp.exit | apply Wp.ret | apply Wp.skip)
end Go.Abs
