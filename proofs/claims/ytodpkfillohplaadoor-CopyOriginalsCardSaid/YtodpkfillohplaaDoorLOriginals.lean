/-
 CopyOriginals: what the original can be, and how many sets that are, are what the document says.
-/
import Derived.Test.YtodpkfillohplaaDoorX23
import Derived.Test.YtodpkfillohplaaDoorY6
set_option linter.all false
namespace Go.Abs
set_option maxRecDepth 10000
set_option maxHeartbeats 8000000

theorem wayE_split {l : List DesA} {w : Int} (he : wayE w l = 0) : ∃ (t : Bool) (ns : List DesN) (hk n : Nat), w = wayOf t ∧ SetsOk ns hk n ∧ l = ns.map DesN.a := by
 have hc : checkS l = 0 := by
  unfold wayE at he
  split at he
  ·rename_i h; exact absurd he h
  ·rename_i h; exact Classical.not_not.1 h
 have hw : ∃ t, w = wayOf t := by
  unfold wayE at he
  rw [if_neg (by simpa using hc)] at he
  split at he
  ·rename_i h
   rcases h with rfl | rfl
   ·exact ⟨false, rfl⟩
   ·exact ⟨true, rfl⟩
  ·cases he
 obtain ⟨t, rfl⟩ := hw
 obtain ⟨ns, hk, n, hS, rfl⟩ := checkS_zero hc
 exact ⟨t, ns, hk, n, rfl, hS, rfl⟩
theorem sumW_min (g m : Nat) : sumW g (min (g + 1) (m + 1)) = sumW g (m + 1) := by
 by_cases h : g ≤ m
 ·rw [Nat.min_eq_left (by omega)]
  have := sumW_out g (m - g)
  rw [show g + 1 + (m - g) = m + 1 by omega] at this
  exact this.symm
 ·rw [Nat.min_eq_right (by omega)]
theorem turn_full (hk n : Nat) : turnL true hk (fullN hk n) = zeroN n := by
 unfold turnL fullN zeroN
 rw [List.map_replicate]
 congr 1
 unfold turnR
 simp
theorem turn_id (hk : Nat) (l : List Nat) : turnL false hk l = l := by
 have : turnR false hk = id := by
  funext x
  rfl
 unfold turnL
 rw [this, List.map_id]
theorem orig_walk (kn : lim F 14 [] = some (.bool true, [])) (w hk most : Int) (m g p cn ce W : Nat) (es S C Fi Z Fu : List AV)
  (hL : lim F 13 [.list 2 es] = some (.bool false, [])) (ho : lim F 15 [.list 2 es] = some (.own 2 es, []))
  (hO : lim F 31 [iv w, .list 2 es, iv most] = some (.tuple [.agg [iv hk, .own 1 S], .agg [iv hk, .own 1 C], iv 0], []))
  (hC : lim F 32 [iv w, .list 2 es, iv most] = some (.tuple [iv (cn : Int), iv (ce : Int)], []))
  (hA : lim F 18 [.list 2 es, .list 2 es] = some (.bool true, []))
  (hRW : lim F 20 [iv w, .list 2 es] = some (iv 0, []))
  (hI : lim F 33 [iv most, iv 0, iv 1000] = some (.bool true, []))
  (hSl : lim F 34 [iv w, .list 2 es, iv most] = some (.tuple [iv (m : Int), iv (g : Int)], []))
  (hCh : lim F 35 [iv (g : Int), iv (m : Int)] = some (iv (W : Int), []))
  (hW : (W = 1000000000001 ∧ cn = 0 ∧ ce = 8) ∨ (W ≤ 1000000000000 ∧ cn = W ∧ ce = 0))
  (hF : lim F 23 [iv w, .list 2 es] = some (.agg [iv hk, .own 1 Fi], []))
  (hE : lim F 37 [.agg [iv hk, .list 1 Fi]] = some (.agg [iv hk, .own 1 Z], []))
  (hFu : lim F 36 [.agg [iv hk, .list 1 Fi]] = some (.agg [iv hk, .own 1 Fu], []))
  (hcase : (w = 1 ∧ 0 < m ∧ S = Fi ∧ C = Fu) ∨ (w = 2 ∧ 0 < m ∧ S = Z ∧ C = Fi) ∨ (m = 0 ∧ S = Fi ∧ C = Fi))
  (hS1 : lim F 22 [.agg [iv hk, .list 1 S], .agg [iv hk, .list 1 S]] = some (.bool true, []))
  (hS2 : lim F 22 [.agg [iv hk, .list 1 C], .agg [iv hk, .list 1 C]] = some (.bool true, []))
  (hP : lim F 38 [.list 2 es] = some (iv (p : Int), []))
  (hRO : p ≤ 9 → W ≤ 1000000000000 ∧ lim F 39 [iv w, .list 2 es, iv most] = some (.agg [iv hk, .own 1 S, iv hk, .own 1 C, iv (W : Int)], []))
  (pS : S.all AV.plain = true) (pC : C.all AV.plain = true) (pF : Fi.all AV.plain = true) (pZ : Z.all AV.plain = true) (pU : Fu.all AV.plain = true)
  : lim F 5 [iv w, .list 2 es, iv most] = some (.bool true, []) := by
 have t1 : es.take es.length = es := List.take_length
 have t2 : S.take S.length = S := List.take_length
 have t3 : C.take C.length = C := List.take_length
 have t4 : Fi.take Fi.length = Fi := List.take_length
 have t5 : Z.take Z.length = Z := List.take_length
 have t6 : Fu.take Fu.length = Fu := List.take_length
 by_cases hp : p ≤ 9
 ·obtain ⟨hw9, hRO⟩ := hRO hp
  rcases hW with ⟨h1, _⟩ | ⟨h1, rfl, rfl⟩
  ·omega
  have hp' : (p : Int) ≤ 9 := by omega
  have hW1 : ¬ (1000000000000 : Int) < cn := by omega
  have hW2 : (cn : Int) ≤ 1000000000000 := by omega
  rcases hcase with ⟨rfl, h2, rfl, rfl⟩ | ⟨rfl, h2, rfl, rfl⟩ | ⟨rfl, rfl, rfl⟩
  ·refine lim_by (fn := a5) (k := 3) (res := [.tmp 6]) rfl rfl rfl (by simp -implicitDefEqProofs (maxSteps := 2000000) (disch := first | exact tt_rfl rfl | omega | (simp only [go_sem] <;> omega) | fail) only [go_sem]) ?_
   try delta mvA
   try delta opA
   try delta tA
   simp -implicitDefEqProofs (maxSteps := 2000000) (disch := first | exact tt_rfl rfl | omega | (simp only [go_sem] <;> omega) | fail) only [go_sem]
   repeat (first | apply Wp.seqA | apply Wp.skipS | apply Wp.blockS | ((first | apply Wp.regS | apply Wp.condV | apply Wp.reg | apply Wp.condW | apply fin_ret); simp -implicitDefEqProofs (maxSteps := 2000000) (disch := first | exact tt_rfl rfl | omega | (simp only [go_sem] <;> omega) | fail) only [go_sem, ite_self, hL, ho, hO, hC, hA, hRW, hI, hSl, hCh, hF, hE, hFu, hS1, hS2, hP, hRO, kn, t1, t2, t3, t4, t5, t6, pS, pC, pF, pZ, pU, h2, hp', hW1, hW2, Int.natCast_pos, Int.natCast_zero, decide_true, decide_false, show ¬ ((m : Nat) : Int) < 0 by omega] <;> try with_reducible rfl) | apply Wp.block | apply Wp.exitS | apply Wp.retS | apply Wp.exit | apply Wp.ret | apply Wp.skip)
  ·refine lim_by (fn := a5) (k := 3) (res := [.tmp 6]) rfl rfl rfl (by simp -implicitDefEqProofs (maxSteps := 2000000) (disch := first | exact tt_rfl rfl | omega | (simp only [go_sem] <;> omega) | fail) only [go_sem]) ?_
   try delta mvA
   try delta opA
   try delta tA
   simp -implicitDefEqProofs (maxSteps := 2000000) (disch := first | exact tt_rfl rfl | omega | (simp only [go_sem] <;> omega) | fail) only [go_sem]
   repeat (first | apply Wp.seqA | apply Wp.skipS | apply Wp.blockS | ((first | apply Wp.regS | apply Wp.condV | apply Wp.reg | apply Wp.condW | apply fin_ret); simp -implicitDefEqProofs (maxSteps := 2000000) (disch := first | exact tt_rfl rfl | omega | (simp only [go_sem] <;> omega) | fail) only [go_sem, ite_self, hL, ho, hO, hC, hA, hRW, hI, hSl, hCh, hF, hE, hFu, hS1, hS2, hP, hRO, kn, t1, t2, t3, t4, t5, t6, pS, pC, pF, pZ, pU, h2, hp', hW1, hW2, Int.natCast_pos, Int.natCast_zero, decide_true, decide_false, show ¬ ((m : Nat) : Int) < 0 by omega] <;> try with_reducible rfl) | apply Wp.block | apply Wp.exitS | apply Wp.retS | apply Wp.exit | apply Wp.ret | apply Wp.skip)
  ·simp only [Int.natCast_zero] at hSl hCh
   refine lim_by (fn := a5) (k := 3) (res := [.tmp 6]) rfl rfl rfl (by simp -implicitDefEqProofs (maxSteps := 2000000) (disch := first | exact tt_rfl rfl | omega | (simp only [go_sem] <;> omega) | fail) only [go_sem]) ?_
   try delta mvA
   try delta opA
   try delta tA
   simp -implicitDefEqProofs (maxSteps := 2000000) (disch := first | exact tt_rfl rfl | omega | (simp only [go_sem] <;> omega) | fail) only [go_sem]
   repeat (first | apply Wp.seqA | apply Wp.skipS | apply Wp.blockS | ((first | apply Wp.regS | apply Wp.condV | apply Wp.reg | apply Wp.condW | apply fin_ret); simp -implicitDefEqProofs (maxSteps := 2000000) (disch := first | exact tt_rfl rfl | omega | (simp only [go_sem] <;> omega) | fail) only [go_sem, ite_self, hL, ho, hO, hC, hA, hRW, hI, hSl, hCh, hF, hE, hFu, hS1, hS2, hP, hRO, kn, t1, t2, t3, t4, t5, t6, pS, pC, pF, pZ, pU, hp', hW1, hW2, Int.natCast_pos, Int.natCast_zero, decide_true, decide_false] <;> try with_reducible rfl) | apply Wp.block | apply Wp.exitS | apply Wp.retS | apply Wp.exit | apply Wp.ret | apply Wp.skip)
 ·clear hRO
  have hp' : ¬ (p : Int) ≤ 9 := by omega
  rcases hW with ⟨rfl, rfl, rfl⟩ | ⟨h1, rfl, rfl⟩
  ·have hW1 : (1000000000000 : Int) < ((1000000000001 : Nat) : Int) := by omega
   have hW2 : ¬ ((1000000000001 : Nat) : Int) ≤ 1000000000000 := by omega
   have e8 : ((8 : Nat) : Int) = 8 := rfl
   rw [e8] at hC
   simp only [Int.natCast_zero] at hC
   generalize ((1000000000001 : Nat) : Int) = Wi at *
   rcases hcase with ⟨rfl, h2, rfl, rfl⟩ | ⟨rfl, h2, rfl, rfl⟩ | ⟨rfl, rfl, rfl⟩
   ·refine lim_by (fn := a5) (k := 3) (res := [.tmp 6]) rfl rfl rfl (by simp -implicitDefEqProofs (maxSteps := 2000000) (disch := first | exact tt_rfl rfl | omega | (simp only [go_sem] <;> omega) | fail) only [go_sem]) ?_
    try delta mvA
    try delta opA
    try delta tA
    simp -implicitDefEqProofs (maxSteps := 2000000) (disch := first | exact tt_rfl rfl | omega | (simp only [go_sem] <;> omega) | fail) only [go_sem]
    repeat (first | apply Wp.seqA | apply Wp.skipS | apply Wp.blockS | ((first | apply Wp.regS | apply Wp.condV | apply Wp.reg | apply Wp.condW | apply fin_ret); simp -implicitDefEqProofs (maxSteps := 2000000) (disch := first | exact tt_rfl rfl | omega | (simp only [go_sem] <;> omega) | fail) only [go_sem, ite_self, hL, ho, hO, hC, hA, hRW, hI, hSl, hCh, hF, hE, hFu, hS1, hS2, hP, kn, t1, t2, t3, t4, t5, t6, pS, pC, pF, pZ, pU, h2, hp', hW1, hW2, Int.natCast_pos, Int.natCast_zero, decide_true, decide_false, show ¬ ((m : Nat) : Int) < 0 by omega] <;> try with_reducible rfl) | apply Wp.block | apply Wp.exitS | apply Wp.retS | apply Wp.exit | apply Wp.ret | apply Wp.skip)
   ·refine lim_by (fn := a5) (k := 3) (res := [.tmp 6]) rfl rfl rfl (by simp -implicitDefEqProofs (maxSteps := 2000000) (disch := first | exact tt_rfl rfl | omega | (simp only [go_sem] <;> omega) | fail) only [go_sem]) ?_
    try delta mvA
    try delta opA
    try delta tA
    simp -implicitDefEqProofs (maxSteps := 2000000) (disch := first | exact tt_rfl rfl | omega | (simp only [go_sem] <;> omega) | fail) only [go_sem]
    repeat (first | apply Wp.seqA | apply Wp.skipS | apply Wp.blockS | ((first | apply Wp.regS | apply Wp.condV | apply Wp.reg | apply Wp.condW | apply fin_ret); simp -implicitDefEqProofs (maxSteps := 2000000) (disch := first | exact tt_rfl rfl | omega | (simp only [go_sem] <;> omega) | fail) only [go_sem, ite_self, hL, ho, hO, hC, hA, hRW, hI, hSl, hCh, hF, hE, hFu, hS1, hS2, hP, kn, t1, t2, t3, t4, t5, t6, pS, pC, pF, pZ, pU, h2, hp', hW1, hW2, Int.natCast_pos, Int.natCast_zero, decide_true, decide_false, show ¬ ((m : Nat) : Int) < 0 by omega] <;> try with_reducible rfl) | apply Wp.block | apply Wp.exitS | apply Wp.retS | apply Wp.exit | apply Wp.ret | apply Wp.skip)
   ·simp only [Int.natCast_zero] at hSl hCh
    refine lim_by (fn := a5) (k := 3) (res := [.tmp 6]) rfl rfl rfl (by simp -implicitDefEqProofs (maxSteps := 2000000) (disch := first | exact tt_rfl rfl | omega | (simp only [go_sem] <;> omega) | fail) only [go_sem]) ?_
    try delta mvA
    try delta opA
    try delta tA
    simp -implicitDefEqProofs (maxSteps := 2000000) (disch := first | exact tt_rfl rfl | omega | (simp only [go_sem] <;> omega) | fail) only [go_sem]
    repeat (first | apply Wp.seqA | apply Wp.skipS | apply Wp.blockS | ((first | apply Wp.regS | apply Wp.condV | apply Wp.reg | apply Wp.condW | apply fin_ret); simp -implicitDefEqProofs (maxSteps := 2000000) (disch := first | exact tt_rfl rfl | omega | (simp only [go_sem] <;> omega) | fail) only [go_sem, ite_self, hL, ho, hO, hC, hA, hRW, hI, hSl, hCh, hF, hE, hFu, hS1, hS2, hP, kn, t1, t2, t3, t4, t5, t6, pS, pC, pF, pZ, pU,  hp', hW1, hW2, Int.natCast_pos, Int.natCast_zero, decide_true, decide_false] <;> try with_reducible rfl) | apply Wp.block | apply Wp.exitS | apply Wp.retS | apply Wp.exit | apply Wp.ret | apply Wp.skip)
  ·have hW1 : ¬ (1000000000000 : Int) < cn := by omega
   have hW2 : (cn : Int) ≤ 1000000000000 := by omega
   rcases hcase with ⟨rfl, h2, rfl, rfl⟩ | ⟨rfl, h2, rfl, rfl⟩ | ⟨rfl, rfl, rfl⟩
   ·refine lim_by (fn := a5) (k := 3) (res := [.tmp 6]) rfl rfl rfl (by simp -implicitDefEqProofs (maxSteps := 2000000) (disch := first | exact tt_rfl rfl | omega | (simp only [go_sem] <;> omega) | fail) only [go_sem]) ?_
    try delta mvA
    try delta opA
    try delta tA
    simp -implicitDefEqProofs (maxSteps := 2000000) (disch := first | exact tt_rfl rfl | omega | (simp only [go_sem] <;> omega) | fail) only [go_sem]
    repeat (first | apply Wp.seqA | apply Wp.skipS | apply Wp.blockS | ((first | apply Wp.regS | apply Wp.condV | apply Wp.reg | apply Wp.condW | apply fin_ret); simp -implicitDefEqProofs (maxSteps := 2000000) (disch := first | exact tt_rfl rfl | omega | (simp only [go_sem] <;> omega) | fail) only [go_sem, ite_self, hL, ho, hO, hC, hA, hRW, hI, hSl, hCh, hF, hE, hFu, hS1, hS2, hP, kn, t1, t2, t3, t4, t5, t6, pS, pC, pF, pZ, pU, h2, hp', hW1, hW2, Int.natCast_pos, Int.natCast_zero, decide_true, decide_false, show ¬ ((m : Nat) : Int) < 0 by omega] <;> try with_reducible rfl) | apply Wp.block | apply Wp.exitS | apply Wp.retS | apply Wp.exit | apply Wp.ret | apply Wp.skip)
   ·refine lim_by (fn := a5) (k := 3) (res := [.tmp 6]) rfl rfl rfl (by simp -implicitDefEqProofs (maxSteps := 2000000) (disch := first | exact tt_rfl rfl | omega | (simp only [go_sem] <;> omega) | fail) only [go_sem]) ?_
    try delta mvA
    try delta opA
    try delta tA
    simp -implicitDefEqProofs (maxSteps := 2000000) (disch := first | exact tt_rfl rfl | omega | (simp only [go_sem] <;> omega) | fail) only [go_sem]
    repeat (first | apply Wp.seqA | apply Wp.skipS | apply Wp.blockS | ((first | apply Wp.regS | apply Wp.condV | apply Wp.reg | apply Wp.condW | apply fin_ret); simp -implicitDefEqProofs (maxSteps := 2000000) (disch := first | exact tt_rfl rfl | omega | (simp only [go_sem] <;> omega) | fail) only [go_sem, ite_self, hL, ho, hO, hC, hA, hRW, hI, hSl, hCh, hF, hE, hFu, hS1, hS2, hP, kn, t1, t2, t3, t4, t5, t6, pS, pC, pF, pZ, pU, h2, hp', hW1, hW2, Int.natCast_pos, Int.natCast_zero, decide_true, decide_false, show ¬ ((m : Nat) : Int) < 0 by omega] <;> try with_reducible rfl) | apply Wp.block | apply Wp.exitS | apply Wp.retS | apply Wp.exit | apply Wp.ret | apply Wp.skip)
   ·simp only [Int.natCast_zero] at hSl hCh
    refine lim_by (fn := a5) (k := 3) (res := [.tmp 6]) rfl rfl rfl (by simp -implicitDefEqProofs (maxSteps := 2000000) (disch := first | exact tt_rfl rfl | omega | (simp only [go_sem] <;> omega) | fail) only [go_sem]) ?_
    try delta mvA
    try delta opA
    try delta tA
    simp -implicitDefEqProofs (maxSteps := 2000000) (disch := first | exact tt_rfl rfl | omega | (simp only [go_sem] <;> omega) | fail) only [go_sem]
    repeat (first | apply Wp.seqA | apply Wp.skipS | apply Wp.blockS | ((first | apply Wp.regS | apply Wp.condV | apply Wp.reg | apply Wp.condW | apply fin_ret); simp -implicitDefEqProofs (maxSteps := 2000000) (disch := first | exact tt_rfl rfl | omega | (simp only [go_sem] <;> omega) | fail) only [go_sem, ite_self, hL, ho, hO, hC, hA, hRW, hI, hSl, hCh, hF, hE, hFu, hS1, hS2, hP, kn, t1, t2, t3, t4, t5, t6, pS, pC, pF, pZ, pU,  hp', hW1, hW2, Int.natCast_pos, Int.natCast_zero, decide_true, decide_false] <;> try with_reducible rfl) | apply Wp.block | apply Wp.exitS | apply Wp.retS | apply Wp.exit | apply Wp.ret | apply Wp.skip)
theorem orig_bad (kn : lim F 14 [] = some (.bool true, [])) (w most : Int) (e : Int) (he : e ≠ 0) (es : List AV)
  (hL : lim F 13 [.list 2 es] = some (.bool false, [])) (ho : lim F 15 [.list 2 es] = some (.own 2 es, []))
  (hA : lim F 18 [.list 2 es, .list 2 es] = some (.bool true, []))
  (hI : lim F 33 [iv most, iv 0, iv 1000] = some (.bool (decide (0 ≤ most ∧ most ≤ 1000)), []))
  (hcase : (lim F 20 [iv w, .list 2 es] = some (iv e, [])) ∨ (lim F 20 [iv w, .list 2 es] = some (iv 0, []) ∧ ¬ (0 ≤ most ∧ most ≤ 1000) ∧ e = 3))
  (hO : lim F 31 [iv w, .list 2 es, iv most] = some (.tuple [.agg [iv 0, .own 1 []], .agg [iv 0, .own 1 []], iv e], []))
  (hC : lim F 32 [iv w, .list 2 es, iv most] = some (.tuple [iv 0, iv e], [])) : lim F 5 [iv w, .list 2 es, iv most] = some (.bool true, []) := by
 have t1 : es.take es.length = es := List.take_length
 have hN0 : lim F 21 [.agg [iv 0, .list 1 []]] = some (.bool true, []) := none_ok 0 []
 rcases hcase with hRW | ⟨hRW, hm, rfl⟩
 ·clear hI
  refine lim_by (fn := a5) (k := 3) (res := [.tmp 6]) rfl rfl rfl (by simp -implicitDefEqProofs (maxSteps := 2000000) (disch := first | exact tt_rfl rfl | omega | (simp only [go_sem] <;> omega) | fail) only [go_sem]) ?_
  try delta mvA
  try delta opA
  try delta tA
  simp -implicitDefEqProofs (maxSteps := 2000000) (disch := first | exact tt_rfl rfl | omega | (simp only [go_sem] <;> omega) | fail) only [go_sem]
  repeat (first | apply Wp.seqA | apply Wp.skipS | apply Wp.blockS | ((first | apply Wp.regS | apply Wp.condV | apply Wp.reg | apply Wp.condW | apply fin_ret); simp -implicitDefEqProofs (maxSteps := 2000000) (disch := first | exact tt_rfl rfl | omega | (simp only [go_sem] <;> omega) | fail) only [go_sem, ite_self, hL, ho, hO, hC, hA, hRW, hN0, kn, t1, he, decide_true, decide_false] <;> try with_reducible rfl) | apply Wp.block | apply Wp.exitS | apply Wp.retS | apply Wp.exit | apply Wp.ret | apply Wp.skip)
 ·rw [decide_eq_false hm] at hI
  refine lim_by (fn := a5) (k := 3) (res := [.tmp 6]) rfl rfl rfl (by simp -implicitDefEqProofs (maxSteps := 2000000) (disch := first | exact tt_rfl rfl | omega | (simp only [go_sem] <;> omega) | fail) only [go_sem]) ?_
  try delta mvA
  try delta opA
  try delta tA
  simp -implicitDefEqProofs (maxSteps := 2000000) (disch := first | exact tt_rfl rfl | omega | (simp only [go_sem] <;> omega) | fail) only [go_sem]
  repeat (first | apply Wp.seqA | apply Wp.skipS | apply Wp.blockS | ((first | apply Wp.regS | apply Wp.condV | apply Wp.reg | apply Wp.condW | apply fin_ret); simp -implicitDefEqProofs (maxSteps := 2000000) (disch := first | exact tt_rfl rfl | omega | (simp only [go_sem] <;> omega) | fail) only [go_sem, ite_self, hL, ho, hO, hC, hA, hRW, hI, hN0, kn, t1, decide_true, decide_false] <;> try with_reducible rfl) | apply Wp.block | apply Wp.exitS | apply Wp.retS | apply Wp.exit | apply Wp.ret | apply Wp.skip)
theorem orig_none (kn : lim F 14 [] = some (.bool true, [])) (w most : Int) (g : Nat) (es : List AV)
  (hL : lim F 13 [.list 2 es] = some (.bool false, [])) (ho : lim F 15 [.list 2 es] = some (.own 2 es, []))
  (hA : lim F 18 [.list 2 es, .list 2 es] = some (.bool true, []))
  (hI : lim F 33 [iv most, iv 0, iv 1000] = some (.bool true, []))
  (hRW : lim F 20 [iv w, .list 2 es] = some (iv 0, []))
  (hSl : lim F 34 [iv w, .list 2 es, iv most] = some (.tuple [iv (-1), iv (g : Int)], []))
  (hO : lim F 31 [iv w, .list 2 es, iv most] = some (.tuple [.agg [iv 0, .own 1 []], .agg [iv 0, .own 1 []], iv 9], []))
  (hC : lim F 32 [iv w, .list 2 es, iv most] = some (.tuple [iv 0, iv 9], [])) : lim F 5 [iv w, .list 2 es, iv most] = some (.bool true, []) := by
 have t1 : es.take es.length = es := List.take_length
 have hN0 : lim F 21 [.agg [iv 0, .list 1 []]] = some (.bool true, []) := none_ok 0 []
 refine lim_by (fn := a5) (k := 3) (res := [.tmp 6]) rfl rfl rfl (by simp -implicitDefEqProofs (maxSteps := 2000000) (disch := first | exact tt_rfl rfl | omega | (simp only [go_sem] <;> omega) | fail) only [go_sem]) ?_
 try delta mvA
 try delta opA
 try delta tA
 simp -implicitDefEqProofs (maxSteps := 2000000) (disch := first | exact tt_rfl rfl | omega | (simp only [go_sem] <;> omega) | fail) only [go_sem]
 repeat (first | apply Wp.seqA | apply Wp.skipS | apply Wp.blockS | ((first | apply Wp.regS | apply Wp.condV | apply Wp.reg | apply Wp.condW | apply fin_ret); simp -implicitDefEqProofs (maxSteps := 2000000) (disch := first | exact tt_rfl rfl | omega | (simp only [go_sem] <;> omega) | fail) only [go_sem, ite_self, hL, ho, hO, hC, hA, hRW, hI, hSl, hN0, kn, t1, decide_true, decide_false] <;> try with_reducible rfl) | apply Wp.block | apply Wp.exitS | apply Wp.retS | apply Wp.exit | apply Wp.ret | apply Wp.skip)
theorem originals_main (kn : lim F 14 [] = some (.bool true, [])) (w : Int) (l : List DesA) (most : Int) : lim F 5 [iv w, .list 2 (l.map DesA.av), iv most] = some (.bool true, []) := by
 have hL := long_ok l
 by_cases hlong : longT l = true
 ·rw [hlong] at hL
  generalize l.map DesA.av = es at *
  refine lim_by (fn := a5) (k := 3) (res := [.tmp 6]) rfl rfl rfl (by simp -implicitDefEqProofs (maxSteps := 2000000) (disch := first | exact tt_rfl rfl | omega | (simp only [go_sem] <;> omega) | fail) only [go_sem]) ?_
  try delta mvA
  try delta opA
  try delta tA
  simp -implicitDefEqProofs (maxSteps := 2000000) (disch := first | exact tt_rfl rfl | omega | (simp only [go_sem] <;> omega) | fail) only [go_sem]
  repeat (first | apply Wp.seqA | apply Wp.skipS | apply Wp.blockS | ((first | apply Wp.regS | apply Wp.condV | apply Wp.reg | apply Wp.condW | apply fin_ret); simp -implicitDefEqProofs (maxSteps := 2000000) (disch := first | exact tt_rfl rfl | omega | (simp only [go_sem] <;> omega) | fail) only [go_sem, hL, kn] <;> try with_reducible rfl) | apply Wp.block | apply Wp.exitS | apply Wp.retS | apply Wp.exit | apply Wp.ret | apply Wp.skip)
 have hlong : longT l = false := by simpa using hlong
 obtain ⟨hl, hr⟩ := longT_no hlong
 rw [hlong] at hL
 have hr' : ∀ d ∈ l, d.rows.length ≤ 1000 := fun d hd => by have := hr d hd; omega
 have hr6 : ∀ d ∈ l, d.rows.length ≤ 1000000 := fun d hd => by have := hr d hd; omega
 have ho := own_ok l (by omega) hr'
 have hRW := refWay_ok w l (by omega) hr6
 have hA := Alike_same l (by omega) hr'
 have hI := refIn_ok most 0 1000
 by_cases he : wayE w l = 0
 ·rw [he] at hRW
  obtain ⟨t, ns, hk, n, rfl, hS, rfl⟩ := wayE_split he
  rw [sets_av] at *
  obtain ⟨⟨k1, k2⟩, k3, k4⟩ := hS.k1
  by_cases hm : 0 ≤ most ∧ most ≤ 1000
  ·rw [decide_eq_true hm] at hI
   have hSl := Slack_ok hS t most hm.1 hm.2
   have hmw := more_worst (setsN t hk ns) (joinN (setsN t hk ns) n) n most ns.length
   by_cases hneg : moreTo (setsN t hk ns) (joinN (setsN t hk ns) n) n most ns.length < 0
   ·rw [show max (-1) (most - ((worstT (setsN t hk ns) (joinN (setsN t hk ns) n) n ns.length : Nat) : Int)) = -1 by omega] at hSl
    exact orig_none kn _ most _ _ hL ho hA hI hRW hSl ((Original_no hS t most).2 hm hneg) ((Count_no hS t most).2 hm hneg)
   ·obtain ⟨m, hmm⟩ := Int.eq_ofNat_of_zero_le (show 0 ≤ moreTo (setsN t hk ns) (joinN (setsN t hk ns) n) n most ns.length by omega)
    have hm1 : m ≤ 1000 := by omega
    rw [show max (-1) (most - ((worstT (setsN t hk ns) (joinN (setsN t hk ns) n) n ns.length : Nat) : Int)) = m by omega] at hSl
    have hCo := Count_ok hS t most m hm.1 hm.2 hmm hm1
    have hOr := Original_ok hS t most m hm.1 hm.2 hmm
    have hg := gapsL_le hk n (joinN (setsN t hk ns) n)
    have hCh := Choose_ok (gapsL hk n (joinN (setsN t hk ns) n)) m (by omega) (by omega)
    rw [Int.toNat_natCast, sumW_min] at hCh
    have hjn : (joinN (setsN t hk ns) n).length = n := by simp
    have hjl : ∀ x ∈ joinN (setsN t hk ns) n, x < 2 ^ hk := fun r hr => by
     obtain ⟨q, hq, rfl⟩ := List.mem_map.1 hr
     exact joinAt_lt (setsN_row hS) (List.mem_range.1 hq)
    have hfl : (firstN t hk n ns).rows.length = n := by simp [firstN]
    have hE := lawEmpty_ok hk (natsV (firstN t hk n ns).rows) (by simp [hfl]; omega)
    have hFu := lawFull_ok hk (natsV (firstN t hk n ns).rows) k2 (by simp [hfl]; omega)
    rw [show (natsV (firstN t hk n ns).rows).length = n by simp [hfl]] at hE hFu
    have hWl := sumW_le (gapsL hk n (joinN (setsN t hk ns) n)) (m + 1)
    have hcK : capK = 1000000000001 := rfl
    have hsl : (sureN t hk n m (joinN (setsN t hk ns) n)).length = n := by unfold sureN; split <;> simp [hiJ_len]
    have hcl : (canN t hk n m (joinN (setsN t hk ns) n)).length = n := by unfold canN; split <;> simp [hiJ_len]
    refine orig_walk kn (wayOf t) hk most m (gapsL hk n (joinN (setsN t hk ns) n)) (hk * n) (if sumW (gapsL hk n (joinN (setsN t hk ns) n)) (m + 1) = capK then 0 else sumW (gapsL hk n (joinN (setsN t hk ns) n)) (m + 1)) (if sumW (gapsL hk n (joinN (setsN t hk ns) n)) (m + 1) = capK then 8 else 0) (sumW (gapsL hk n (joinN (setsN t hk ns) n)) (m + 1)) _ _ _ _ _ _ hL ho hOr ?_ hA hRW hI hSl hCh ?_ (refFirst_ok hS t) hE hFu ?_ (same_self _ _ (by omega)) (same_self _ _ (by omega)) (points_ok hS) ?_ (nats_plain _) (nats_plain _) (nats_plain _) (nats_plain _) (nats_plain _)
    ·rw [hCo]
     split
     ·rfl
     ·rfl
    ·by_cases hc : sumW (gapsL hk n (joinN (setsN t hk ns) n)) (m + 1) = capK
     ·rw [if_pos hc, if_pos hc]
      exact .inl ⟨hc, rfl, rfl⟩
     ·rw [if_neg hc, if_neg hc]
      exact .inr ⟨by omega, rfl, rfl⟩
    ·unfold sureN canN firstN hiJ
     dsimp only
     by_cases h0 : 0 < m
     ·cases t
      ·left
       refine ⟨rfl, h0, by rw [if_neg (by simp)], ?_⟩
       rw [if_neg (by simp), if_pos h0, turn_id]
      ·right
       left
       refine ⟨rfl, h0, ?_, by rw [if_pos rfl]⟩
       rw [if_pos rfl, if_pos h0, turn_full]
     ·right
      right
      refine ⟨by omega, ?_, ?_⟩
      ·rw [if_neg h0, ite_self]
      ·rw [if_neg h0, ite_self]
    ·intro hp9
     have hRO := refOriginal_ok hS t most hp9
     have hfun : (fun b => okTo t hk n ns most b ns.length) = goodX t (jfOf hk (joinN (setsN t hk ns) n)) (hk * n) (m + 1) := by
      funext b
      exact ok_good hS t most m (by omega) b
     rw [hfun] at hRO
     have hgl := gapX_le (jfOf hk (joinN (setsN t hk ns) n)) (hk * n)
     have hgf := gaps_flat (n := n) (j := joinN (setsN t hk ns) n) k2
     have hcnt : (goodL (goodX t (jfOf hk (joinN (setsN t hk ns) n)) (hk * n) (m + 1)) (2 ^ (hk * n))).length = sumW (gapsL hk n (joinN (setsN t hk ns) n)) (m + 1) := by
      unfold goodL
      rw [good_count, hgf, sum_small (by omega)]
     have hne := goods_ne t (jfOf hk (joinN (setsN t hk ns) n)) (hk * n) m
     obtain ⟨q1, q2⟩ := sure_eq t m (joinN (setsN t hk ns) n) hjn hjl
     unfold ansV at hRO
     rw [q1, q2, hcnt] at hRO
     unfold hkG at hRO
     rw [if_neg hne] at hRO
     refine ⟨?_, hRO⟩
     have h1 := chS_le (gapsL hk n (joinN (setsN t hk ns) n)) (m + 1)
     rw [← sum_small (by omega)] at h1
     have h2 : 2 ^ gapsL hk n (joinN (setsN t hk ns) n) ≤ 2 ^ 9 := Nat.pow_le_pow_right (by omega) (by omega)
     omega
  ·exact orig_bad kn _ most 3 (by omega) _ hL ho hA hI (.inr ⟨hRW, hm, rfl⟩) ((Original_no hS t most).1 hm) ((Count_no hS t most).1 hm)
 ·exact orig_bad kn w most _ he _ hL ho hA hI (.inl hRW) (Original_bad l (by omega) hr6 w most he) (Count_bad l (by omega) hr6 w most he)
end Go.Abs
