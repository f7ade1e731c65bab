/-
 Chapter 12: how much room there is, and in how many ways points are chosen, by the document. No condition beyond those that each theorem names.
-/
import Derived.Test.YtodpkfillohplaaDoorX19
set_option linter.all false
namespace Go.Abs
set_option maxRecDepth 10000
set_option maxHeartbeats 4000000

def worstT (s : List (List Nat)) (j : List Nat) (n : Nat) : Nat → Nat
 | 0 => 0
 | k + 1 => max (worstT s j n k) (lostV j (s.getD k []) n)
theorem worstT_le (s : List (List Nat)) (j : List Nat) (n : Nat) : ∀ k, worstT s j n k ≤ 24 * n
 | 0 => Nat.zero_le _
 | k + 1 => by
  have h := worstT_le s j n k
  have h2 := lostV_le j (s.getD k []) n
  unfold worstT
  omega
theorem more_worst (s : List (List Nat)) (j : List Nat) (n : Nat) (most : Int) : ∀ k, moreTo s j n most k = most - (worstT s j n k : Nat)
 | 0 => by simp [moreTo, worstT]
 | k + 1 => by
  have h := more_worst s j n most k
  unfold moreTo worstT
  omega
theorem wl_hi {p k m : Nat} (h : p + 1 ≤ k) : wl p k m = wl p m m := by
 apply list_ext_get (by simp [wl_len])
 intro j hj
 rw [wl_len] at hj
 rw [wl_get (by omega), wl_get (by omega), if_neg (show ¬ m < j by omega)]
 by_cases h' : k < j
 ·rw [if_pos h', wayT_out (p + 1) j (by omega), wayT_out p j (by omega)]
 ·rw [if_neg h']
theorem Choose_ok (p : Nat) (m : Int) (m0 : 0 ≤ m) (hp : p ≤ 1440) : lim F 35 [iv (p : Int), iv m] = some (iv ((sumW p (min (p + 1) (m.toNat + 1)) : Nat) : Int), []) := by
 have z1 : (List.replicate (p + 1) (iv 0)).set 0 (iv 1) = wl 0 p p := by
  rw [List.replicate_succ, List.set_cons_zero, wl_zero]
 have e1 : ((p : Int) + 1).toNat = p + 1 := by omega
 have l1 : (List.replicate (p + 1) (iv 0)).length = p + 1 := by simp
 have g1 : (List.replicate (p + 1) (iv 0))[0]? = some (iv 0) := by simp
 refine lim_by (fn := a35) (k := 2) (res := [.tmp 4]) rfl rfl rfl (by simp -implicitDefEqProofs (maxSteps := 2000000) (disch := first | exact tt_rfl rfl | omega | (simp only [go_sem] <;> omega) | fail) only [go_sem]) ?_
 try delta mvA
 try delta opA
 try delta tA
 simp -implicitDefEqProofs (maxSteps := 2000000) (disch := first | exact tt_rfl rfl | omega | (simp only [go_sem] <;> omega) | fail) only [go_sem]
 repeat (first | apply Wp.seqA | apply Wp.skipS | apply Wp.blockS | ((first | apply Wp.regS | apply Wp.condV | apply Wp.reg | apply Wp.condW | apply fin_ret); simp -implicitDefEqProofs (maxSteps := 2000000) (disch := first | exact tt_rfl rfl | omega | (simp only [go_sem] <;> omega) | fail) only [go_sem, e1, l1, g1, z1] <;> try with_reducible rfl) | apply Wp.block | apply Wp.exitS | apply Wp.retS | apply Wp.exit | apply Wp.ret | apply Wp.skip)
 apply Wp.loopF p (fun i => ⟨[(0, iv (p : Int)), (1, iv m), (5, .slice 320 0 (p + 1)), (6, iv ((i + 1 : Nat) : Int))], [(320, .arr 1 (wl i p p))], [], 10000000⟩) (fun _ => True)
 ·simp -implicitDefEqProofs (maxSteps := 2000000) (disch := first | exact tt_rfl rfl | omega | (simp only [go_sem] <;> omega) | fail) only [go_sem, norm_eq, Ok.some]
  rfl
 ·trivial
 intro i hi _
 by_cases h' : i < p
 ·have i1 : ((i + 1 : Nat) : Int) ≤ p := by omega
  repeat (first | apply Wp.seqA | apply Wp.skipS | apply Wp.blockS | ((first | apply Wp.regS | apply Wp.condV | apply Wp.reg | apply Wp.condW | apply fin_ret); simp -implicitDefEqProofs (maxSteps := 2000000) (disch := first | exact tt_rfl rfl | omega | (simp only [go_sem] <;> omega) | fail) only [go_sem, i1] <;> try with_reducible rfl) | apply Wp.block | apply Wp.exitS | apply Wp.retS | apply Wp.exit | apply Wp.ret | apply Wp.skip)
  apply Wp.loopF (i + 1) (fun q => ⟨[(0, iv (p : Int)), (1, iv m), (5, .slice 320 0 (p + 1)), (6, iv ((i + 1 : Nat) : Int)), (7, iv ((i + 1 - q : Nat) : Int))], [(320, .arr 1 (wl i (i + 1 - q) p))], [], 10000000⟩) (fun _ => True)
  ·simp -implicitDefEqProofs (maxSteps := 2000000) (disch := first | exact tt_rfl rfl | omega | (simp only [go_sem] <;> omega) | fail) only [go_sem, norm_eq, Ok.some]
   rw [Nat.sub_zero, wl_hi (Nat.le_refl _)]
  ·trivial
  intro q hq _
  by_cases hq' : q < i + 1
  ·have a1 := wl_get (p := i) (k := i + 1 - q) (show i + 1 - q ≤ p by omega)
   have a2 := wl_get (p := i) (k := i + 1 - q) (show i + 1 - q - 1 ≤ p by omega)
   have a3 := wl_set (p := i) (show 1 ≤ i + 1 - q by omega) (show i + 1 - q ≤ p by omega)
   rw [if_neg (by omega)] at a1 a2
   have a4 := min_cap (wayT i (i + 1 - q)) (wayT i (i + 1 - q - 1))
   have a5 : min capK (wayT i (i + 1 - q) + wayT i (i + 1 - q - 1)) = wayT (i + 1) (i + 1 - q) := by
    obtain ⟨k, hk⟩ : ∃ k, i + 1 - q = k + 1 := ⟨i - q, by omega⟩
    rw [hk]; rfl
   rw [a5] at a4
   have b1 := wayT_le i (i + 1 - q)
   have b2 := wayT_le i (i + 1 - q - 1)
   have b3 : capK = 1000000000001 := rfl
   have e2 : ((i + 1 - q : Nat) : Int) - 1 = ((i + 1 - q - 1 : Nat) : Int) := by omega
   have e3 : i + 1 - (q + 1) = i + 1 - q - 1 := by omega
   have c1 : 0 < i + 1 - q := by omega
   have c2 : i + 1 - q ≤ p := by omega
   have n1 := wl_len i (i + 1 - q) p
   rw [e3]
   generalize hkk : i + 1 - q = k at *
   generalize wayT i k = w1 at *
   generalize wayT i (k - 1) = w2 at *
   generalize wayT (i + 1) k = w3 at *
   repeat (first | apply Wp.seqA | apply Wp.skipS | apply Wp.blockS | ((first | apply Wp.regS | apply Wp.condV | apply Wp.reg | apply Wp.condW | apply fin_ret); simp -implicitDefEqProofs (maxSteps := 2000000) (disch := first | exact tt_rfl rfl | omega | (simp only [go_sem] <;> omega) | fail) only [go_sem, c1, Int.natCast_pos, a1, a2, a3, a4, e2, n1, Int.toNat_natCast] <;> try with_reducible rfl) | apply Wp.block | apply Wp.exitS | apply Wp.retS | apply Wp.exit | apply Wp.ret | apply Wp.skip)
   apply round_next
   ·simp -implicitDefEqProofs (maxSteps := 2000000) (disch := first | exact tt_rfl rfl | omega | (simp only [go_sem] <;> omega) | fail) only [go_sem, norm_eq, Ok.some]; with_reducible rfl
   exact ⟨hq', rfl, trivial⟩
  ·obtain rfl : q = i + 1 := by omega
   rw [Nat.sub_self, wl_next]
   repeat (first | apply Wp.seqA | apply Wp.skipS | apply Wp.blockS | ((first | apply Wp.regS | apply Wp.condV | apply Wp.reg | apply Wp.condW | apply fin_ret); simp -implicitDefEqProofs (maxSteps := 2000000) (disch := first | exact tt_rfl rfl | omega | (simp only [go_sem] <;> omega) | fail) only [go_sem, Int.lt_irrefl] <;> try with_reducible rfl) | apply Wp.block | apply Wp.exitS | apply Wp.retS | apply Wp.exit | apply Wp.ret | apply Wp.skip)
   apply round_next
   ·simp -implicitDefEqProofs (maxSteps := 2000000) (disch := first | exact tt_rfl rfl | omega | (simp only [go_sem] <;> omega) | fail) only [go_sem, norm_eq, Ok.some]; with_reducible rfl
   exact ⟨h', by simp, trivial⟩
 ·obtain rfl : i = p := by omega
  have i1 : ¬ ((i + 1 : Nat) : Int) ≤ i := by omega
  clear z1 e1 l1 g1
  have hgl : ∀ j, j < i + 1 → (wl i i i)[j]? = some (iv ((wayT i j : Nat) : Int)) := fun j hj => by
   rw [wl_get (by omega), if_neg (by omega)]
  have n1 := wl_len i i i
  have hss : ∀ j, sumW i (j + 1) = min capK (sumW i j + wayT i j) := fun j => rfl
  have hsl2 := sumW_le i
  have hwl2 := wayT_le i
  have b3 : capK = 1000000000001 := rfl
  obtain ⟨mn, rfl⟩ := Int.eq_ofNat_of_zero_le m0
  rw [Int.toNat_natCast]
  generalize wl i i i = ws at *
  repeat (first | apply Wp.seqA | apply Wp.skipS | apply Wp.blockS | ((first | apply Wp.regS | apply Wp.condV | apply Wp.reg | apply Wp.condW | apply fin_ret); simp -implicitDefEqProofs (maxSteps := 2000000) (disch := first | exact tt_rfl rfl | omega | (simp only [go_sem] <;> omega) | fail) only [go_sem, i1] <;> try with_reducible rfl) | apply Wp.block | apply Wp.exitS | apply Wp.retS | apply Wp.exit | apply Wp.ret | apply Wp.skip)
  apply Wp.loopF (min (i + 1) (mn + 1)) (fun j => ⟨[(0, iv (i : Int)), (1, iv (mn : Int)), (5, .slice 320 0 (i + 1)), (8, iv ((sumW i j : Nat) : Int)), (9, iv (j : Int))], [(320, .arr 1 ws)], [], 10000000⟩) (fun _ => True)
  ·simp -implicitDefEqProofs (maxSteps := 2000000) (disch := first | exact tt_rfl rfl | omega | (simp only [go_sem] <;> omega) | fail) only [go_sem, norm_eq, Ok.some]
   rfl
  ·trivial
  intro j hj _
  by_cases h' : j < min (i + 1) (mn + 1)
  ·have a1 := hgl j (by omega)
   have a2 := hsl2 j
   have a3 := hwl2 j
   have a4 := min_cap (sumW i j) (wayT i j)
   rw [hss]
   have q1 : (j : Int) ≤ i := by omega
   have q2 : (j : Int) ≤ mn := by omega
   have q3 : j < i + 1 := by omega
   generalize sumW i j = s at *
   generalize wayT i j = w at *
   generalize min capK (s + w) = sw at *
   repeat (first | apply Wp.seqA | apply Wp.skipS | apply Wp.blockS | ((first | apply Wp.regS | apply Wp.condV | apply Wp.reg | apply Wp.condW | apply fin_ret); simp -implicitDefEqProofs (maxSteps := 2000000) (disch := first | exact tt_rfl rfl | omega | (simp only [go_sem] <;> omega) | fail) only [go_sem, q1, q2, q3, a1, a4, n1, decide_true] <;> try with_reducible rfl) | apply Wp.block | apply Wp.exitS | apply Wp.retS | apply Wp.exit | apply Wp.ret | apply Wp.skip)
   apply round_next
   ·simp -implicitDefEqProofs (maxSteps := 2000000) (disch := first | exact tt_rfl rfl | omega | (simp only [go_sem] <;> omega) | fail) only [go_sem, norm_eq, Ok.some]; with_reducible rfl
   exact ⟨h', by simp, trivial⟩
  ·have ej : j = min (i + 1) (mn + 1) := by omega
   rw [← ej]
   by_cases q1 : (j : Int) ≤ i
   ·have q2 : ¬ (j : Int) ≤ mn := by omega
    repeat (first | apply Wp.seqA | apply Wp.skipS | apply Wp.blockS | ((first | apply Wp.regS | apply Wp.condV | apply Wp.reg | apply Wp.condW | apply fin_ret); simp -implicitDefEqProofs (maxSteps := 2000000) (disch := first | exact tt_rfl rfl | omega | (simp only [go_sem] <;> omega) | fail) only [go_sem, q1, q2, decide_true, decide_false] <;> try with_reducible rfl) | apply Wp.block | apply Wp.exitS | apply Wp.retS | apply Wp.exit | apply Wp.ret | apply Wp.skip)
   ·repeat (first | apply Wp.seqA | apply Wp.skipS | apply Wp.blockS | ((first | apply Wp.regS | apply Wp.condV | apply Wp.reg | apply Wp.condW | apply fin_ret); simp -implicitDefEqProofs (maxSteps := 2000000) (disch := first | exact tt_rfl rfl | omega | (simp only [go_sem] <;> omega) | fail) only [go_sem, q1, decide_false] <;> try with_reducible rfl) | apply Wp.block | apply Wp.exitS | apply Wp.retS | apply Wp.exit | apply Wp.ret | apply Wp.skip)
theorem first_at {l : List DesN} {hk n : Nat} (h : SetsOk l hk n) (t : Bool) {i : Nat} (hi : i < n) {q : Nat} (hq : q < hk) : ((firstN t hk n l).rows.getD i 0).testBit q = (((joinN (setsN t hk l) n).getD i 0).testBit q ^^ t) := by
 have e : atR (turnL t hk (joinN (setsN t hk l) n)) i = turnR t hk ((joinN (setsN t hk l) n).getD i 0) := turnL_at _ _ _ (by simp; omega)
 unfold atR at e
 unfold firstN
 rw [e, turnR_bit hq]
theorem made_first {l : List DesN} {hk n : Nat} (h : SetsOk l hk n) (t : Bool) {k : Nat} (hk' : k < l.length) : madeN t hk n (firstN t hk n l) l[k] = lostV (joinN (setsN t hk l) n) ((setsN t hk l).getD k []) n := by
 unfold madeN madeB lostV
 rw [setsN_get hk']
 unfold firstN
 rw [turnL_twice]
theorem Slack_ok {l : List DesN} {hk n : Nat} (h : SetsOk l hk n) (t : Bool) (most : Int) (h0 : 0 ≤ most) (h1 : most ≤ 1000) : lim F 34 [iv (wayOf t), .list 2 (l.map setV), iv most] = some (.tuple [iv (max (-1) (most - (worstT (setsN t hk l) (joinN (setsN t hk l) n) n l.length : Nat))), iv ((gapsL hk n (joinN (setsN t hk l) n) : Nat) : Int)], []) := by
 obtain ⟨⟨k1, k2⟩, k3, k4⟩ := h.k1
 have hl10 := h.l10
 have hF := refFirst_ok h t
 have hM := fun k (hk' : k < l.length) => refMade_ok (h.first t (List.getElem_mem hk')) t
 have hM2 := fun k (hk' : k < l.length) => made_first h t hk'
 have hwt := worstT_le (setsN t hk l) (joinN (setsN t hk l) n) n
 have hws : ∀ k, worstT (setsN t hk l) (joinN (setsN t hk l) n) n (k + 1) = max (worstT (setsN t hk l) (joinN (setsN t hk l) n) n k) (lostV (joinN (setsN t hk l) n) ((setsN t hk l).getD k []) n) := fun k => rfl
 have hlv := fun k => lostV_le (joinN (setsN t hk l) n) ((setsN t hk l).getD k []) n
 have hB := fun i (hi : i < n) q (hq : q < hk) => first_at h t hi hq
 have hd := firstN_ok h t
 have hdh : (firstN t hk n l).hk = hk := rfl
 have hdr : (firstN t hk n l).rows.length = n := by simp [firstN]
 have hH := fun i q (hi : i < n) (hq : q ≤ 24) => Hole_ok (firstN t hk n l) hd i q (by omega) hq
 have hgj : ∀ k, k < l.length → (l.map setV)[k]? = some (setV (l.getD k ⟨0, []⟩)) := fun k hk' => by
  rw [List.getElem?_map, List.getElem?_eq_getElem hk', List.getD_eq_getElem?_getD, List.getElem?_eq_getElem hk']
  rfl
 have hgd : ∀ k (hk' : k < l.length), l.getD k ⟨0, []⟩ = l[k] := fun k hk' => by
  rw [List.getD_eq_getElem?_getD, List.getElem?_eq_getElem hk']; rfl
 have hjl : ∀ i, i < n → (joinN (setsN t hk l) n).getD i 0 < 2 ^ hk := fun i hi => by
  rw [rows_get (by simp; omega)]
  obtain ⟨q, hq, e⟩ := List.mem_map.1 (List.getElem_mem (l := joinN (setsN t hk l) n) (n := i) (by simp; omega))
  rw [← e]
  exact joinAt_lt (setsN_row h) (List.mem_range.1 hq)
 generalize (setsN t hk l) = s at *
 generalize joinN s n = j at *
 generalize firstN t hk n l = fd at *
 obtain ⟨fh, fr⟩ := fd
 dsimp only at hdh hdr hH hM hF hB hd hM2
 subst hdh
 unfold setV at *
 dsimp only at hH hM hF hgj
 have n2 : (natsV fr).length = n := by simp [hdr]
 have t2 : (natsV fr).take n = natsV fr := List.take_of_length_le (by omega)
 have P2 := nats_plain fr
 have hln : (l.map fun d => AV.agg [iv (d.hk : Int), .list 1 (natsV d.rows)]).length = l.length := by simp
 generalize natsV fr = fv at *
 have hgap : ∀ i, lostT (atR (fullN fh n)) (atR j) (i + 1) = lostT (atR (fullN fh n)) (atR j) i + bitsN (subN (atR (fullN fh n) i) (atR j i)) 24 := fun i => rfl
 have hgl : ∀ i, lostT (atR (fullN fh n)) (atR j) i ≤ 24 * i := lostT_le _ _
 change lim F _ _ = some (.tuple [_, iv ((lostT (atR (fullN fh n)) (atR j) n : Nat) : Int)], [])
 generalize hes : (l.map fun d => AV.agg [iv (d.hk : Int), .list 1 (natsV d.rows)]) = es at *
 refine lim_by (fn := a34) (k := 3) (res := [.tmp 6, .tmp 7]) rfl rfl rfl (by simp -implicitDefEqProofs (maxSteps := 2000000) (disch := first | exact tt_rfl rfl | omega | (simp only [go_sem] <;> omega) | fail) only [go_sem]) ?_
 try delta mvA
 try delta opA
 try delta tA
 simp -implicitDefEqProofs (maxSteps := 2000000) (disch := first | exact tt_rfl rfl | omega | (simp only [go_sem] <;> omega) | fail) only [go_sem]
 repeat (first | apply Wp.seqA | apply Wp.skipS | apply Wp.blockS | ((first | apply Wp.regS | apply Wp.condV | apply Wp.reg | apply Wp.condW | apply fin_ret); simp -implicitDefEqProofs (maxSteps := 2000000) (disch := first | exact tt_rfl rfl | omega | (simp only [go_sem] <;> omega) | fail) only [go_sem, hF, n2, t2, P2, ite_self] <;> try with_reducible rfl) | apply Wp.block | apply Wp.exitS | apply Wp.retS | apply Wp.exit | apply Wp.ret | apply Wp.skip)
 apply Wp.loopF l.length (fun k => ⟨[(0, iv (wayOf t)), (1, .list 2 es), (2, iv most), (8, .ptr 512 0 0), (9, iv ((worstT s j n k : Nat) : Int)), (10, iv 0), (11, iv (k : Int))], [(512, .box [iv (fh : Int), .slice 308193 0 n]), (308193, .arr 1 fv)], [], 10000000⟩) (fun _ => True)
 ·simp -implicitDefEqProofs (maxSteps := 2000000) (disch := first | exact tt_rfl rfl | omega | (simp only [go_sem] <;> omega) | fail) only [go_sem, norm_eq, Ok.some]
  rfl
 ·trivial
 intro k hk' _
 by_cases h' : k < l.length
 ·have a1 := hgj k h'
  have a2 := hM k h'
  have a3 := hM2 k h'
  have a4 := hws k
  have a5 := hwt k
  have a6 := hlv k
  have a7 : 24 * n ≤ 24 * 60 := by omega
  have a8 : ∀ x y : Nat, max (x : Int) (y : Int) = ((max x y : Nat) : Int) := fun x y => by omega
  rw [hgd k h'] at a1
  rw [a3] at a2
  rw [a4]
  clear hF hM hM2 hws hwt hlv hB hH hgj hgd hjl hgap hgl
  generalize worstT s j n k = wk at *
  generalize lostV j (s.getD k []) n = lv at *
  generalize natsV l[k].rows = rk at *
  generalize l[k].hk = hk2 at *
  repeat (first | apply Wp.seqA | apply Wp.skipS | apply Wp.blockS | ((first | apply Wp.regS | apply Wp.condV | apply Wp.reg | apply Wp.condW | apply fin_ret); simp -implicitDefEqProofs (maxSteps := 2000000) (disch := first | exact tt_rfl rfl | omega | (simp only [go_sem] <;> omega) | fail) only [go_sem, h', Int.ofNat_lt, a1, a2, n2, t2, P2, hln, a8] <;> try with_reducible rfl) | apply Wp.block | apply Wp.exitS | apply Wp.retS | apply Wp.exit | apply Wp.ret | apply Wp.skip)
  apply round_next
  ·simp -implicitDefEqProofs (maxSteps := 2000000) (disch := first | exact tt_rfl rfl | omega | (simp only [go_sem] <;> omega) | fail) only [go_sem, norm_eq, Ok.some]; with_reducible rfl
  exact ⟨h', by simp, trivial⟩
 ·obtain rfl : k = l.length := by omega
  have hwn := hwt l.length
  clear hF hM hM2 hws hwt hlv hgj hgd
  generalize worstT s j n l.length = wk at *
  repeat (first | apply Wp.seqA | apply Wp.skipS | apply Wp.blockS | ((first | apply Wp.regS | apply Wp.condV | apply Wp.reg | apply Wp.condW | apply fin_ret); simp -implicitDefEqProofs (maxSteps := 2000000) (disch := first | exact tt_rfl rfl | omega | (simp only [go_sem] <;> omega) | fail) only [go_sem, Int.lt_irrefl, hln] <;> try with_reducible rfl) | apply Wp.block | apply Wp.exitS | apply Wp.retS | apply Wp.exit | apply Wp.ret | apply Wp.skip)
  apply Wp.loopF n (fun i => ⟨[(0, iv (wayOf t)), (2, iv most), (8, .ptr 512 0 0), (9, iv (wk : Int)), (10, iv ((lostT (atR (fullN fh n)) (atR j) i : Nat) : Int)), (14, iv (i : Int))], [(512, .box [iv (fh : Int), .slice 308193 0 n]), (308193, .arr 1 fv)], [], 10000000⟩) (fun _ => True)
  ·simp -implicitDefEqProofs (maxSteps := 2000000) (disch := first | exact tt_rfl rfl | omega | (simp only [go_sem] <;> omega) | fail) only [go_sem, norm_eq, Ok.some]
   rfl
  ·trivial
  intro i hi _
  by_cases h' : i < n
  ·have x1 : subN (atR (fullN fh n) i) (atR j i) < 2 ^ fh := by
    apply subN_lt
    unfold atR
    rw [fullN_at fh n i h']
    have : 0 < 2 ^ fh := Nat.pow_pos (by omega)
    omega
   have x2 : ∀ q, q < fh → (subN (atR (fullN fh n) i) (atR j i)).testBit q = !(j.getD i 0).testBit q := fun q hq => by
    rw [subN_bit]
    unfold atR
    rw [fullN_at fh n i h', Nat.testBit_two_pow_sub_one, decide_eq_true hq, Bool.true_and]
   have x3 := hgap i
   have x4 := hgl i
   have x5 : bitsN (subN (atR (fullN fh n) i) (atR j i)) 24 = bitsN (subN (atR (fullN fh n) i) (atR j i)) fh := bitsN_top x1 k2
   have x6 : ∀ q, bitsN (subN (atR (fullN fh n) i) (atR j i)) (q + 1) = bitsN (subN (atR (fullN fh n) i) (atR j i)) q + ((subN (atR (fullN fh n) i) (atR j i)).testBit q).toNat := fun q => bitsN_succ _ _
   have x7 : ∀ q, bitsN (subN (atR (fullN fh n) i) (atR j i)) q ≤ q := fun q => by
    unfold bitsN
    exact Nat.le_trans (List.length_filter_le _ _) (by simp)
   have y1 := fun q hq => hB i h' q hq
   have y2 := fun q hq => hH i q h' hq
   rw [x3, x5]
   clear hB hH hgap hgl x3 x5
   generalize subN (atR (fullN fh n) i) (atR j i) = sx at *
   generalize lostT (atR (fullN fh n)) (atR j) i = ln at *
   repeat (first | apply Wp.seqA | apply Wp.skipS | apply Wp.blockS | ((first | apply Wp.regS | apply Wp.condV | apply Wp.reg | apply Wp.condW | apply fin_ret); simp -implicitDefEqProofs (maxSteps := 2000000) (disch := first | exact tt_rfl rfl | omega | (simp only [go_sem] <;> omega) | fail) only [go_sem, h', Int.ofNat_lt, n2] <;> try with_reducible rfl) | apply Wp.block | apply Wp.exitS | apply Wp.retS | apply Wp.exit | apply Wp.ret | apply Wp.skip)
   apply Wp.loopF fh (fun q => ⟨[(0, iv (wayOf t)), (2, iv most), (8, .ptr 512 0 0), (9, iv (wk : Int)), (10, iv ((ln + bitsN sx q : Nat) : Int)), (14, iv (i : Int)), (15, iv (q : Int))], [(512, .box [iv (fh : Int), .slice 308193 0 n]), (308193, .arr 1 fv)], [], 10000000⟩) (fun _ => True)
   ·simp -implicitDefEqProofs (maxSteps := 2000000) (disch := first | exact tt_rfl rfl | omega | (simp only [go_sem] <;> omega) | fail) only [go_sem, norm_eq, Ok.some]
    simp [bitsN]
   ·trivial
   intro q hq _
   by_cases hq' : q < fh
   ·have c1 := y1 q hq'
    have c2 := y2 q (by omega)
    have c3 := x6 q
    have c4 := x7 q
    rw [x2 q hq'] at c3
    rw [c1] at c2
    rw [c3]
    clear y1 y2 x6 x7 x2 c1
    generalize bitsN sx q = bn at *
    generalize (j.getD i 0).testBit q = jb at *
    have es2 : ((ln + bn : Nat) : Int) + 1 = ((ln + bn + 1 : Nat) : Int) := by omega
    cases t <;> cases jb
    ·repeat (first | apply Wp.seqA | apply Wp.skipS | apply Wp.blockS | ((first | apply Wp.regS | apply Wp.condV | apply Wp.reg | apply Wp.condW | apply fin_ret); simp -implicitDefEqProofs (maxSteps := 2000000) (disch := first | exact tt_rfl rfl | omega | (simp only [go_sem] <;> omega) | fail) only [go_sem, hq', Int.ofNat_lt, n2, t2, P2, c2, es2, wayOf, ite_true, ite_false, Bool.false_eq_true, decide_true, decide_false] <;> try with_reducible rfl) | apply Wp.block | apply Wp.exitS | apply Wp.retS | apply Wp.exit | apply Wp.ret | apply Wp.skip)
     apply round_next
     ·simp -implicitDefEqProofs (maxSteps := 2000000) (disch := first | exact tt_rfl rfl | omega | (simp only [go_sem] <;> omega) | fail) only [go_sem, norm_eq, Ok.some]; with_reducible rfl
     exact ⟨hq', by simp [wayOf]; omega, trivial⟩
    ·repeat (first | apply Wp.seqA | apply Wp.skipS | apply Wp.blockS | ((first | apply Wp.regS | apply Wp.condV | apply Wp.reg | apply Wp.condW | apply fin_ret); simp -implicitDefEqProofs (maxSteps := 2000000) (disch := first | exact tt_rfl rfl | omega | (simp only [go_sem] <;> omega) | fail) only [go_sem, hq', Int.ofNat_lt, n2, t2, P2, c2, es2, wayOf, ite_true, ite_false, Bool.false_eq_true, decide_true, decide_false] <;> try with_reducible rfl) | apply Wp.block | apply Wp.exitS | apply Wp.retS | apply Wp.exit | apply Wp.ret | apply Wp.skip)
     apply round_next
     ·simp -implicitDefEqProofs (maxSteps := 2000000) (disch := first | exact tt_rfl rfl | omega | (simp only [go_sem] <;> omega) | fail) only [go_sem, norm_eq, Ok.some]; with_reducible rfl
     exact ⟨hq', by simp [wayOf], trivial⟩
    ·repeat (first | apply Wp.seqA | apply Wp.skipS | apply Wp.blockS | ((first | apply Wp.regS | apply Wp.condV | apply Wp.reg | apply Wp.condW | apply fin_ret); simp -implicitDefEqProofs (maxSteps := 2000000) (disch := first | exact tt_rfl rfl | omega | (simp only [go_sem] <;> omega) | fail) only [go_sem, hq', Int.ofNat_lt, n2, t2, P2, c2, es2, wayOf, ite_true, ite_false, Bool.false_eq_true, decide_true, decide_false] <;> try with_reducible rfl) | apply Wp.block | apply Wp.exitS | apply Wp.retS | apply Wp.exit | apply Wp.ret | apply Wp.skip)
     apply round_next
     ·simp -implicitDefEqProofs (maxSteps := 2000000) (disch := first | exact tt_rfl rfl | omega | (simp only [go_sem] <;> omega) | fail) only [go_sem, norm_eq, Ok.some]; with_reducible rfl
     exact ⟨hq', by simp [wayOf]; omega, trivial⟩
    ·repeat (first | apply Wp.seqA | apply Wp.skipS | apply Wp.blockS | ((first | apply Wp.regS | apply Wp.condV | apply Wp.reg | apply Wp.condW | apply fin_ret); simp -implicitDefEqProofs (maxSteps := 2000000) (disch := first | exact tt_rfl rfl | omega | (simp only [go_sem] <;> omega) | fail) only [go_sem, hq', Int.ofNat_lt, n2, t2, P2, c2, es2, wayOf, ite_true, ite_false, Bool.false_eq_true, decide_true, decide_false] <;> try with_reducible rfl) | apply Wp.block | apply Wp.exitS | apply Wp.retS | apply Wp.exit | apply Wp.ret | apply Wp.skip)
     apply round_next
     ·simp -implicitDefEqProofs (maxSteps := 2000000) (disch := first | exact tt_rfl rfl | omega | (simp only [go_sem] <;> omega) | fail) only [go_sem, norm_eq, Ok.some]; with_reducible rfl
     exact ⟨hq', by simp [wayOf], trivial⟩
   ·obtain rfl : q = fh := by omega
    repeat (first | apply Wp.seqA | apply Wp.skipS | apply Wp.blockS | ((first | apply Wp.regS | apply Wp.condV | apply Wp.reg | apply Wp.condW | apply fin_ret); simp -implicitDefEqProofs (maxSteps := 2000000) (disch := first | exact tt_rfl rfl | omega | (simp only [go_sem] <;> omega) | fail) only [go_sem, Int.lt_irrefl] <;> try with_reducible rfl) | apply Wp.block | apply Wp.exitS | apply Wp.retS | apply Wp.exit | apply Wp.ret | apply Wp.skip)
    apply round_next
    ·simp -implicitDefEqProofs (maxSteps := 2000000) (disch := first | exact tt_rfl rfl | omega | (simp only [go_sem] <;> omega) | fail) only [go_sem, norm_eq, Ok.some]; with_reducible rfl
    exact ⟨h', by simp, trivial⟩
  ·obtain rfl : i = n := by omega
   repeat (first | apply Wp.seqA | apply Wp.skipS | apply Wp.blockS | ((first | apply Wp.regS | apply Wp.condV | apply Wp.reg | apply Wp.condW | apply fin_ret); simp -implicitDefEqProofs (maxSteps := 2000000) (disch := first | exact tt_rfl rfl | omega | (simp only [go_sem] <;> omega) | fail) only [go_sem, Int.lt_irrefl, n2] <;> try with_reducible rfl) | apply Wp.block | apply Wp.exitS | apply Wp.retS | apply Wp.exit | apply Wp.ret | apply Wp.skip)
end Go.Abs
