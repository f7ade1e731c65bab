/-
 Chapter 12: how many sets the original can be. No condition beyond those that each theorem names.
-/
import Derived.Test.YtodpkfillohplaaDoorX17
import Derived.Test.YtodpkfillohplaaDoorY5
set_option linter.all false
namespace Go.Abs
set_option maxRecDepth 10000
set_option maxHeartbeats 4000000

def wl (p k m : Nat) : List AV := (List.range (m + 1)).map fun j => iv (((if k < j then wayT (p + 1) j else wayT p j : Nat)) : Int)
theorem wl_len (p k m : Nat) : (wl p k m).length = m + 1 := by simp [wl]
theorem wl_get {p k m j : Nat} (h : j ≤ m) : (wl p k m)[j]? = some (iv (((if k < j then wayT (p + 1) j else wayT p j : Nat)) : Int)) := by
 unfold wl
 rw [List.getElem?_map, List.getElem?_range (by omega)]
 rfl
theorem list_ext_get {l l' : List AV} (h : l.length = l'.length) (hg : ∀ j, j < l.length → l[j]? = l'[j]?) : l = l' := by
 apply List.ext_getElem? 
 intro j
 by_cases hj : j < l.length
 ·exact hg j hj
 ·rw [List.getElem?_eq_none (by omega), List.getElem?_eq_none (by omega)]
theorem wl_set {p k m : Nat} (h1 : 1 ≤ k) (h : k ≤ m) : (wl p k m).set k (iv ((wayT (p + 1) k : Nat) : Int)) = wl p (k - 1) m := by
 apply list_ext_get (by simp [wl_len])
 intro j hj
 simp only [List.length_set, wl_len] at hj
 rw [List.getElem?_set, wl_len, wl_get (by omega), wl_get (by omega)]
 by_cases e : k = j
 ·subst e
  rw [if_pos rfl, if_pos (by omega), if_pos (by omega)]
 ·rw [if_neg e]
  by_cases h2 : k < j
  ·rw [if_pos h2, if_pos (by omega)]
  ·rw [if_neg h2, if_neg (by omega)]
theorem wl_next (p m : Nat) : wl p 0 m = wl (p + 1) m m := by
 apply list_ext_get (by simp [wl_len])
 intro j hj
 rw [wl_len] at hj
 rw [wl_get (by omega), wl_get (by omega), if_neg (show ¬ m < j by omega)]
 by_cases h : 0 < j
 ·rw [if_pos h]
 ·obtain rfl : j = 0 := by omega
  rw [if_neg h, wayT_zero, wayT_zero]
theorem wl_zero (m : Nat) : iv 1 :: List.replicate m (iv 0) = wl 0 m m := by
 apply list_ext_get (by simp [wl_len])
 intro j hj
 simp at hj
 rw [wl_get (by omega), if_neg (show ¬ m < j by omega)]
 rcases j with _ | j
 ·rfl
 ·rw [List.getElem?_cons_succ, List.getElem?_replicate, if_pos (by omega)]
  rfl
theorem min_cap (a b : Nat) : min (1000000000001 : Int) ((a : Int) + (b : Int)) = ((min capK (a + b) : Nat) : Int) := by
 unfold capK
 omega
theorem Count_ok {l : List DesN} {hk n : Nat} (h : SetsOk l hk n) (t : Bool) (most : Int) (m : Nat) (h0 : 0 ≤ most) (h1 : most ≤ 1000) (hm : moreTo (setsN t hk l) (joinN (setsN t hk l) n) n most l.length = m) (hm1 : m ≤ 1000) : lim F 32 [iv (wayOf t), .list 2 (l.map setV), iv most] = some (if sumW (gapsL hk n (joinN (setsN t hk l) n)) (m + 1) = capK then .tuple [iv 0, iv 8] else .tuple [iv ((sumW (gapsL hk n (joinN (setsN t hk l) n)) (m + 1) : Nat) : Int), iv 0], []) := by
 obtain ⟨⟨k1, k2⟩, k3, k4⟩ := h.k1
 have hrow := setsN_row (t := t) h
 have hjl : ∀ x ∈ joinN (setsN t hk l) n, x < 2 ^ hk := fun r hr => by
  obtain ⟨q, hq, rfl⟩ := List.mem_map.1 hr
  exact joinAt_lt hrow (List.mem_range.1 hq)
 have hR := room_loop h t most h0 h1
 rw [hm, if_neg (by omega)] at hR
 have hG := gaps_ok hk n t (joinN (setsN t hk l) n) k2 k3 k4 (by simp) hjl
 have hg := gapsL_le hk n (joinN (setsN t hk l) n)
 have n2 : (natsV (joinN (setsN t hk l) n)).length = n := by simp
 have t2 : (natsV (joinN (setsN t hk l) n)).take n = natsV (joinN (setsN t hk l) n) := List.take_of_length_le (by omega)
 have P2 := nats_plain (joinN (setsN t hk l) n)
 have hsl : ((setsN t hk l).map listV).length = l.length := by simp
 have tS : ((setsN t hk l).map listV).take l.length = (setsN t hk l).map listV := List.take_of_length_le (by omega)
 generalize gapsL hk n (joinN (setsN t hk l) n) = g at *
 generalize natsV (joinN (setsN t hk l) n) = jr at *
 unfold openV at hR
 generalize (setsN t hk l).map listV = sr at *
 generalize l.map setV = es at *
 have z1 := wl_zero m
 have hgk : g ≤ 24 * 60 := by omega
 refine lim_by (fn := a32) (k := 3) (res := [.tmp 6, .tmp 7]) rfl rfl rfl (by simp -implicitDefEqProofs (maxSteps := 2000000) (disch := first | exact tt_rfl rfl | omega | (simp only [go_sem] <;> omega) | fail) only [go_sem]) ?_
 try delta mvA
 try delta opA
 try delta tA
 simp -implicitDefEqProofs (maxSteps := 2000000) (disch := first | exact tt_rfl rfl | omega | (simp only [go_sem] <;> omega) | fail) only [go_sem]
 repeat (first | apply Wp.seqA | apply Wp.skipS | apply Wp.blockS | ((first | apply Wp.regS | apply Wp.condV | apply Wp.reg | apply Wp.condW | apply fin_ret); simp -implicitDefEqProofs (maxSteps := 2000000) (disch := first | exact tt_rfl rfl | omega | (simp only [go_sem] <;> omega) | fail) only [go_sem, hR, hG, n2, t2, P2, hsl, tS, z1] <;> try with_reducible rfl) | apply Wp.block | apply Wp.exitS | apply Wp.retS | apply Wp.exit | apply Wp.ret | apply Wp.skip)
 apply Wp.loopF g (fun i => ⟨[(10, iv (m : Int)), (12, .slice 768 0 (1 + m)), (35, iv (g : Int)), (36, iv (i : Int))], [(768, .arr 1 (wl i m m))], [], 10000000⟩) (fun _ => True)
 ·simp -implicitDefEqProofs (maxSteps := 2000000) (disch := first | exact tt_rfl rfl | omega | (simp only [go_sem] <;> omega) | fail) only [go_sem, norm_eq, Ok.some]
  rfl
 ·trivial
 intro i hi _
 by_cases h' : i < g
 ·clear hR hG n2 t2 P2 hsl tS z1 hrow hjl
  repeat (first | apply Wp.seqA | apply Wp.skipS | apply Wp.blockS | ((first | apply Wp.regS | apply Wp.condV | apply Wp.reg | apply Wp.condW | apply fin_ret); simp -implicitDefEqProofs (maxSteps := 2000000) (disch := first | exact tt_rfl rfl | omega | (simp only [go_sem] <;> omega) | fail) only [go_sem, h', Int.ofNat_lt] <;> try with_reducible rfl) | apply Wp.block | apply Wp.exitS | apply Wp.retS | apply Wp.exit | apply Wp.ret | apply Wp.skip)
  apply Wp.loopF m (fun q => ⟨[(10, iv (m : Int)), (12, .slice 768 0 (1 + m)), (13, iv ((m : Int) - q)), (35, iv (g : Int)), (36, iv (i : Int))], [(768, .arr 1 (wl i (m - q) m))], [], 10000000⟩) (fun _ => True)
  ·simp -implicitDefEqProofs (maxSteps := 2000000) (disch := first | exact tt_rfl rfl | omega | (simp only [go_sem] <;> omega) | fail) only [go_sem, norm_eq, Ok.some]
   simp
  ·trivial
  intro q hq _
  by_cases hq' : q < m
  ·have e1 : (m : Int) - q = ((m - q : Nat) : Int) := by omega
   have a1 := wl_get (p := i) (k := m - q) (show m - q ≤ m by omega)
   have a2 := wl_get (p := i) (k := m - q) (show m - q - 1 ≤ m by omega)
   have a3 := wl_set (p := i) (show 1 ≤ m - q by omega) (show m - q ≤ m by omega)
   rw [if_neg (by omega)] at a1 a2
   have a4 := min_cap (wayT i (m - q)) (wayT i (m - q - 1))
   have a5 : min capK (wayT i (m - q) + wayT i (m - q - 1)) = wayT (i + 1) (m - q) := by
    obtain ⟨k, hk⟩ : ∃ k, m - q = k + 1 := ⟨m - q - 1, by omega⟩
    rw [hk]; rfl
   rw [a5] at a4
   have b1 := wayT_le i (m - q)
   have b2 := wayT_le i (m - q - 1)
   have b3 : capK = 1000000000001 := rfl
   have e2 : ((m - q : Nat) : Int) - 1 = ((m - q - 1 : Nat) : Int) := by omega
   have e3 : m - (q + 1) = m - q - 1 := by omega
   have c1 : 0 < m - q := by omega
   have c2 : m - q ≤ m := by omega
   have n1 := wl_len i (m - q) m
   rw [e1]
   generalize hkk : m - q = k at *
   generalize wayT i k = w1 at *
   generalize wayT i (k - 1) = w2 at *
   generalize wayT (i + 1) k = w3 at *
   repeat (first | apply Wp.seqA | apply Wp.skipS | apply Wp.blockS | ((first | apply Wp.regS | apply Wp.condV | apply Wp.reg | apply Wp.condW | apply fin_ret); simp -implicitDefEqProofs (maxSteps := 2000000) (disch := first | exact tt_rfl rfl | omega | (simp only [go_sem] <;> omega) | fail) only [go_sem, c1, Int.natCast_pos, a1, a2, a3, a4, e2, n1, Int.toNat_natCast] <;> try with_reducible rfl) | apply Wp.block | apply Wp.exitS | apply Wp.retS | apply Wp.exit | apply Wp.ret | apply Wp.skip)
   apply round_next
   ·simp -implicitDefEqProofs (maxSteps := 2000000) (disch := first | exact tt_rfl rfl | omega | (simp only [go_sem] <;> omega) | fail) only [go_sem, norm_eq, Ok.some]; with_reducible rfl
   refine ⟨hq', ?_, trivial⟩
   rw [e3, show (m : Int) - ((q + 1 : Nat) : Int) = ((k - 1 : Nat) : Int) by omega]
  ·obtain rfl : q = m := by omega
   rw [Int.sub_self, Nat.sub_self, wl_next]
   repeat (first | apply Wp.seqA | apply Wp.skipS | apply Wp.blockS | ((first | apply Wp.regS | apply Wp.condV | apply Wp.reg | apply Wp.condW | apply fin_ret); simp -implicitDefEqProofs (maxSteps := 2000000) (disch := first | exact tt_rfl rfl | omega | (simp only [go_sem] <;> omega) | fail) only [go_sem, Int.lt_irrefl] <;> try with_reducible rfl) | apply Wp.block | apply Wp.exitS | apply Wp.retS | apply Wp.exit | apply Wp.ret | apply Wp.skip)
   apply round_next
   ·simp -implicitDefEqProofs (maxSteps := 2000000) (disch := first | exact tt_rfl rfl | omega | (simp only [go_sem] <;> omega) | fail) only [go_sem, norm_eq, Ok.some]; with_reducible rfl
   exact ⟨h', by simp, trivial⟩
 ·obtain rfl : i = g := by omega
  repeat (first | apply Wp.seqA | apply Wp.skipS | apply Wp.blockS | ((first | apply Wp.regS | apply Wp.condV | apply Wp.reg | apply Wp.condW | apply fin_ret); simp -implicitDefEqProofs (maxSteps := 2000000) (disch := first | exact tt_rfl rfl | omega | (simp only [go_sem] <;> omega) | fail) only [go_sem, Int.lt_irrefl] <;> try with_reducible rfl) | apply Wp.block | apply Wp.exitS | apply Wp.retS | apply Wp.exit | apply Wp.ret | apply Wp.skip)
  have hgl : ∀ j, j < m + 1 → (wl i m m)[j]? = some (iv ((wayT i j : Nat) : Int)) := fun j hj => by
   rw [wl_get (by omega), if_neg (by omega)]
  have n1 := wl_len i m m
  have hlen : ((1 + m : Nat) : Int) = ((m + 1 : Nat) : Int) := by omega
  have hss : ∀ j, sumW i (j + 1) = min capK (sumW i j + wayT i j) := fun j => rfl
  have hsl2 := sumW_le i
  have hwl2 := wayT_le i
  have b3 : capK = 1000000000001 := rfl
  clear hR hG n2 t2 P2 hsl tS z1 hrow hjl
  generalize wl i m m = ws at *
  rw [hlen, Nat.add_comm 1 m]
  apply Wp.loopF (m + 1) (fun j => ⟨[(14, iv ((sumW i j : Nat) : Int)), (58, .slice 3712 0 (m + 1)), (59, iv ((m + 1 : Nat) : Int)), (60, iv (j : Int))], [(3712, .arr 1 ws)], [], 10000000⟩) (fun _ => True)
  ·simp -implicitDefEqProofs (maxSteps := 2000000) (disch := first | exact tt_rfl rfl | omega | (simp only [go_sem] <;> omega) | fail) only [go_sem, norm_eq, Ok.some]
   rfl
  ·trivial
  intro j hj _
  by_cases h' : j < m + 1
  ·have a1 := hgl j h'
   have a2 := hsl2 j
   have a3 := hwl2 j
   have a4 := min_cap (sumW i j) (wayT i j)
   rw [← hss j] at a4
   rw [hss]
   rw [hss] at a4
   generalize sumW i j = s at *
   generalize wayT i j = w at *
   generalize min capK (s + w) = sw at *
   repeat (first | apply Wp.seqA | apply Wp.skipS | apply Wp.blockS | ((first | apply Wp.regS | apply Wp.condV | apply Wp.reg | apply Wp.condW | apply fin_ret); simp -implicitDefEqProofs (maxSteps := 2000000) (disch := first | exact tt_rfl rfl | omega | (simp only [go_sem] <;> omega) | fail) only [go_sem, h', Int.ofNat_lt, a1, a4, n1] <;> try with_reducible rfl) | apply Wp.block | apply Wp.exitS | apply Wp.retS | apply Wp.exit | apply Wp.ret | apply Wp.skip)
   apply round_next
   ·simp -implicitDefEqProofs (maxSteps := 2000000) (disch := first | exact tt_rfl rfl | omega | (simp only [go_sem] <;> omega) | fail) only [go_sem, norm_eq, Ok.some]; with_reducible rfl
   exact ⟨h', by simp, trivial⟩
  ·obtain rfl : j = m + 1 := by omega
   have a2 := hsl2 (m + 1)
   by_cases hc : sumW i (m + 1) = capK
   ·rw [if_pos hc, hc, b3]
    have e9 : ((1000000000001 : Nat) : Int) = 1000000000001 := rfl
    repeat (first | apply Wp.seqA | apply Wp.skipS | apply Wp.blockS | ((first | apply Wp.regS | apply Wp.condV | apply Wp.reg | apply Wp.condW | apply fin_ret); simp -implicitDefEqProofs (maxSteps := 2000000) (disch := first | exact tt_rfl rfl | omega | (simp only [go_sem] <;> omega) | fail) only [go_sem, Int.lt_irrefl, e9] <;> try with_reducible rfl) | apply Wp.block | apply Wp.exitS | apply Wp.retS | apply Wp.exit | apply Wp.ret | apply Wp.skip)
   ·rw [if_neg hc]
    generalize sumW i (m + 1) = s at *
    repeat (first | apply Wp.seqA | apply Wp.skipS | apply Wp.blockS | ((first | apply Wp.regS | apply Wp.condV | apply Wp.reg | apply Wp.condW | apply fin_ret); simp -implicitDefEqProofs (maxSteps := 2000000) (disch := first | exact tt_rfl rfl | omega | (simp only [go_sem] <;> omega) | fail) only [go_sem, Int.lt_irrefl, show ¬ (s : Int) = 1000000000001 by omega] <;> try with_reducible rfl) | apply Wp.block | apply Wp.exitS | apply Wp.retS | apply Wp.exit | apply Wp.ret | apply Wp.skip)
end Go.Abs
