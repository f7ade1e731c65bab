/-
 Chapter 12: which copy was made of which, by the document. No condition beyond those that each theorem names.
-/
import Derived.Test.YtodpkfillohplaaDoorX10
set_option linter.all false
namespace Go.Abs
set_option maxRecDepth 10000
set_option maxHeartbeats 4000000

theorem turnL_twice (t : Bool) (hk : Nat) (l : List Nat) : turnL t hk (turnL t hk l) = l := by
 unfold turnL
 rw [List.map_map]
 conv => rhs; rw [← List.map_id l]
 exact List.map_congr_left fun r _ => turnR_twice t hk r
theorem firstN_ok {l : List DesN} {hk n : Nat} (h : SetsOk l hk n) (t : Bool) : (firstN t hk n l).Ok := by
 obtain ⟨⟨k1, k2⟩, k3, k4⟩ := h.k1
 have hrow := setsN_row (t := t) h
 refine ⟨k1, k2, by simp [firstN]; omega, by simp [firstN]; omega, fun r hr => ?_⟩
 obtain ⟨y, hy, rfl⟩ := List.mem_map.1 hr
 obtain ⟨q, hq, rfl⟩ := List.mem_map.1 hy
 exact turnR_lt (joinAt_lt hrow (List.mem_range.1 hq))
theorem SetsOk.pair {l : List DesN} {hk n : Nat} (h : SetsOk l hk n) {a b : DesN} (ha : a ∈ l) (hb : b ∈ l) : SetsOk [a, b] hk n := by
 refine ⟨by simp, by simp, fun d hd => ?_, fun d hd => ?_, fun d hd => ?_⟩
 all_goals
  simp only [List.mem_cons, List.not_mem_nil, or_false] at hd
 ·rcases hd with rfl | rfl
  ·exact h.ok _ ha
  ·exact h.ok _ hb
 ·rcases hd with rfl | rfl
  ·exact h.hk _ ha
  ·exact h.hk _ hb
 ·rcases hd with rfl | rfl
  ·exact h.rows _ ha
  ·exact h.rows _ hb
theorem SetsOk.first {l : List DesN} {hk n : Nat} (h : SetsOk l hk n) (t : Bool) {b : DesN} (hb : b ∈ l) : SetsOk [firstN t hk n l, b] hk n := by
 refine ⟨by simp, by simp, fun d hd => ?_, fun d hd => ?_, fun d hd => ?_⟩
 all_goals
  simp only [List.mem_cons, List.not_mem_nil, or_false] at hd
 ·rcases hd with rfl | rfl
  ·exact firstN_ok h t
  ·exact h.ok _ hb
 ·rcases hd with rfl | rfl
  ·rfl
  ·exact h.hk _ hb
 ·rcases hd with rfl | rfl
  ·simp [firstN]
  ·exact h.rows _ hb
theorem setsN_get {t : Bool} {hk : Nat} {l : List DesN} {k : Nat} (h : k < l.length) : (setsN t hk l).getD k [] = turnL t hk l[k].rows := by
 unfold setsN
 rw [List.getD_eq_getElem?_getD, List.getElem?_map, List.getElem?_eq_getElem h]; rfl
theorem refTree_ok {l : List DesN} {hk n : Nat} (h : SetsOk l hk n) (t : Bool) : lim F 28 [iv (wayOf t), .list 2 (l.map setV)] = some (.tuple [.own 1 (intsV (treeL (setsN t hk l) (joinN (setsN t hk l) n) n l.length)), iv ((treeS (setsN t hk l) (joinN (setsN t hk l) n) n l.length : Nat) : Int)], []) := by
 obtain ⟨⟨k1, k2⟩, k3, k4⟩ := h.k1
 have hl10 := h.l10
 have hF := refFirst_ok h t
 have hfr : (firstN t hk n l).rows = turnL t hk (joinN (setsN t hk l) n) := rfl
 have hM0 : ∀ i (hi : i < l.length), lim F 25 [iv (wayOf t), .agg [iv (hk : Int), .list 1 (natsV (firstN t hk n l).rows)], .agg [iv (hk : Int), .list 1 (natsV l[i].rows)]] = some (.tuple [.bool (subB (joinN (setsN t hk l) n) ((setsN t hk l).getD i []) n), iv ((lostV (joinN (setsN t hk l) n) ((setsN t hk l).getD i []) n : Nat) : Int)], []) := fun i hi => by
  have hm := refMade_ok (h.first t (List.getElem_mem hi)) t
  unfold setV at hm
  rw [h.hk _ (List.getElem_mem _)] at hm
  rw [setsN_get hi]
  unfold madeN madeB at hm
  rw [hfr, turnL_twice] at hm
  exact hm
 have hM : ∀ k i (hk' : k < l.length) (hi : i < l.length), lim F 25 [iv (wayOf t), .agg [iv (hk : Int), .list 1 (natsV l[k].rows)], .agg [iv (hk : Int), .list 1 (natsV l[i].rows)]] = some (.tuple [.bool (subB ((setsN t hk l).getD k []) ((setsN t hk l).getD i []) n), iv ((lostV ((setsN t hk l).getD k []) ((setsN t hk l).getD i []) n : Nat) : Int)], []) := fun k i hk' hi => by
  have hm := refMade_ok (h.pair (List.getElem_mem hk') (List.getElem_mem hi)) t
  unfold setV at hm
  rw [h.hk _ (List.getElem_mem _), h.hk _ (List.getElem_mem _)] at hm
  rw [setsN_get hk', setsN_get hi]
  exact hm
 have hln0 : (l.map setV).length = l.length := by simp
 have hg : ∀ k (hk' : k < l.length), (l.map setV)[k]? = some (.agg [iv (hk : Int), .list 1 (natsV l[k].rows)]) := fun k hk' => by
  rw [setN_at hk', h.hk _ (List.getElem_mem _)]
 have n1 : (natsV (firstN t hk n l).rows).length = n := by simp [firstN]
 have P1 := nats_plain (firstN t hk n l).rows
 have t1 : (natsV (firstN t hk n l).rows).take n = natsV (firstN t hk n l).rows := List.take_of_length_le (by omega)
 generalize setsN t hk l = s at *
 generalize joinN s n = j at *
 have hst := treeL_succ s j n
 have hln : ∀ m, (intsV (treeL s j n m)).length = m := fun m => by simp
 have hpl : ∀ m, (intsV (treeL s j n m)).all AV.plain = true := fun m => int_plain _
 have hvle := treeV_le s j n
 have hsle := treeS_le s j n
 have hbd : ∀ m, m ≤ l.length → treeS s j n m ≤ 20000 := fun m hm => by
  have h1 := hsle m
  have h2 : 24 * n * m ≤ 24 * 60 * 10 := Nat.mul_le_mul (Nat.mul_le_mul (Nat.le_refl _) k4) (by omega)
  omega
 generalize natsV (firstN t hk n l).rows = fr at *
 generalize l.map setV = es at *
 refine lim_by (fn := a28) (k := 2) (res := [.tmp 4, .tmp 5]) rfl rfl rfl (by simp -implicitDefEqProofs (maxSteps := 2000000) (disch := first | exact tt_rfl rfl | omega | (simp only [go_sem] <;> omega) | fail) only [go_sem]) ?_
 simp -implicitDefEqProofs (maxSteps := 2000000) (disch := first | exact tt_rfl rfl | omega | (simp only [go_sem] <;> omega) | fail) only [go_sem]
 repeat (first | apply Wp.seqA | apply Wp.skipS | apply Wp.blockS | ((first | apply Wp.regS | apply Wp.condV | apply Wp.reg | apply Wp.condW | apply fin_ret); simp -implicitDefEqProofs (maxSteps := 2000000) (disch := first | exact tt_rfl rfl | omega | (simp only [go_sem] <;> omega) | fail) only [go_sem, hF, n1, P1, t1] <;> try with_reducible rfl) | apply Wp.block | apply Wp.exitS | apply Wp.retS | apply Wp.exit | apply Wp.ret | apply Wp.skip)
 apply Wp.loopF l.length (fun i => ⟨[(0, iv (wayOf t)), (1, .list 2 es), (6, .slice 384 0 i), (7, iv ((treeS s j n i : Nat) : Int)), (8, .ptr 512 0 0), (9, iv (i : Int))], [(384, .arr 1 (intsV (treeL s j n i))), (512, .box [iv (hk : Int), .slice 308193 0 n]), (308193, .arr 1 fr)], [], 10000000⟩) (fun _ => True)
 ·simp -implicitDefEqProofs (maxSteps := 2000000) (disch := first | exact tt_rfl rfl | omega | (simp only [go_sem] <;> omega) | fail) only [go_sem, norm_eq, Ok.some]
  rfl
 ·trivial
 intro i hi _
 by_cases h' : i < l.length
 ·have a1 := hg i h'
  have a2 := hM0 i h'
  have a3 := fun k hk' => hM k i hk' h'
  have e1 := hst i
  have e2 : treeS s j n (i + 1) = treeS s j n i + (treeV s j n i i).2 := rfl
  have q1 := hln i
  have v0 : treeV s j n i 0 = (-1, lostV j (s.getD i []) n) := rfl
  have vs : ∀ k, treeV s j n i (k + 1) = if subB (s.getD k []) (s.getD i []) n = true ∧ lostV (s.getD k []) (s.getD i []) n < (treeV s j n i k).2 then ((k : Int), lostV (s.getD k []) (s.getD i []) n) else treeV s j n i k := fun k => rfl
  have b1 := hbd i (by omega)
  have b2 := hvle i i
  have b3 := hvle i
  rw [e1, e2]
  generalize intsV (treeL s j n i) = L at *
  generalize treeS s j n i = ts at *
  generalize natsV l[i].rows = ri at *
  repeat (first | apply Wp.seqA | apply Wp.skipS | apply Wp.blockS | ((first | apply Wp.regS | apply Wp.condV | apply Wp.reg | apply Wp.condW | apply fin_ret); simp -implicitDefEqProofs (maxSteps := 2000000) (disch := first | exact tt_rfl rfl | omega | (simp only [go_sem] <;> omega) | fail) only [go_sem, h', Int.ofNat_lt, n1, t1, P1, hln0, a1, a2, ite_self] <;> try with_reducible rfl) | apply Wp.block | apply Wp.exitS | apply Wp.retS | apply Wp.exit | apply Wp.ret | apply Wp.skip)
  have a4 := fun k (hk' : k < i) => hg k (by omega)
  have a5 := fun k (hk' : k < i) => a3 k (by omega)
  have b3 := hvle i
  apply Wp.loopF i (fun k => ⟨[(0, iv (wayOf t)), (1, .list 2 es), (6, .slice 384 0 i), (7, iv (ts : Int)), (8, .ptr 512 0 0), (9, iv (i : Int)), (10, iv (treeV s j n i k).1), (12, iv ((treeV s j n i k).2 : Nat)), (13, iv (k : Int))], [(384, .arr 1 L), (512, .box [iv (hk : Int), .slice 308193 0 n]), (308193, .arr 1 fr)], [], 10000000⟩) (fun _ => True)
  ·simp -implicitDefEqProofs (maxSteps := 2000000) (disch := first | exact tt_rfl rfl | omega | (simp only [go_sem] <;> omega) | fail) only [go_sem, norm_eq, Ok.some]
   rw [v0]; rfl
  ·trivial
  intro k hk' _
  by_cases h2 : k < i
  ·have c1 := a4 k h2
   have c2 := a5 k h2
   have c8 := a1
   have c3 := vs k
   have c4 := b3 k
   have c5 : subB (s.getD k []) (s.getD i []) n = false → treeV s j n i (k + 1) = treeV s j n i k := fun e => by rw [c3, if_neg (by rw [e]; simp)]
   have c6 : ¬ lostV (s.getD k []) (s.getD i []) n < (treeV s j n i k).2 → treeV s j n i (k + 1) = treeV s j n i k := fun e => by rw [c3, if_neg fun q => e q.2]
   have c7 : subB (s.getD k []) (s.getD i []) n = true → lostV (s.getD k []) (s.getD i []) n < (treeV s j n i k).2 → treeV s j n i (k + 1) = ((k : Int), lostV (s.getD k []) (s.getD i []) n) := fun e1 e2 => by rw [c3, if_pos ⟨e1, e2⟩]
   clear hF hM0 hM hg hst hln hpl hvle hsle hbd a1 a2 a3 a4 a5 b3 b1 b2 vs v0 c3 e1 e2
   generalize treeV s j n i (k + 1) = tv' at *
   generalize lostV (s.getD k []) (s.getD i []) n = lv at *
   generalize subB (s.getD k []) (s.getD i []) n = sb at *
   generalize treeV s j n i k = tv at *
   generalize natsV (l[k]'(by omega)).rows = rk at *
   cases sb
   ·have c5 := c5 rfl
    subst c5
    generalize tv'.1 = f1 at *
    generalize tv'.2 = w1 at *
    repeat (first | apply Wp.seqA | apply Wp.skipS | apply Wp.blockS | ((first | apply Wp.regS | apply Wp.condV | apply Wp.reg | apply Wp.condW | apply fin_ret); simp -implicitDefEqProofs (maxSteps := 2000000) (disch := first | exact tt_rfl rfl | omega | (simp only [go_sem] <;> omega) | fail) only [go_sem, h2, Int.ofNat_lt, c1, c2, c8, hln0] <;> try with_reducible rfl) | apply Wp.block | apply Wp.exitS | apply Wp.retS | apply Wp.exit | apply Wp.ret | apply Wp.skip)
    apply round_next
    ·simp -implicitDefEqProofs (maxSteps := 2000000) (disch := first | exact tt_rfl rfl | omega | (simp only [go_sem] <;> omega) | fail) only [go_sem, norm_eq, Ok.some]; with_reducible rfl
    exact ⟨h2, by simp, trivial⟩
   ·by_cases hlt : lv < tv.2
    ·have c7 := c7 rfl hlt
     subst c7
     dsimp only
     generalize tv.1 = f1 at *
     generalize tv.2 = w1 at *
     repeat (first | apply Wp.seqA | apply Wp.skipS | apply Wp.blockS | ((first | apply Wp.regS | apply Wp.condV | apply Wp.reg | apply Wp.condW | apply fin_ret); simp -implicitDefEqProofs (maxSteps := 2000000) (disch := first | exact tt_rfl rfl | omega | (simp only [go_sem] <;> omega) | fail) only [go_sem, h2, Int.ofNat_lt, c1, c2, c8, hln0, hlt] <;> try with_reducible rfl) | apply Wp.block | apply Wp.exitS | apply Wp.retS | apply Wp.exit | apply Wp.ret | apply Wp.skip)
     apply round_next
     ·simp -implicitDefEqProofs (maxSteps := 2000000) (disch := first | exact tt_rfl rfl | omega | (simp only [go_sem] <;> omega) | fail) only [go_sem, norm_eq, Ok.some]; with_reducible rfl
     exact ⟨h2, by simp, trivial⟩
    ·have c6 := c6 hlt
     subst c6
     generalize tv'.1 = f1 at *
     generalize tv'.2 = w1 at *
     repeat (first | apply Wp.seqA | apply Wp.skipS | apply Wp.blockS | ((first | apply Wp.regS | apply Wp.condV | apply Wp.reg | apply Wp.condW | apply fin_ret); simp -implicitDefEqProofs (maxSteps := 2000000) (disch := first | exact tt_rfl rfl | omega | (simp only [go_sem] <;> omega) | fail) only [go_sem, h2, Int.ofNat_lt, c1, c2, c8, hln0, hlt] <;> try with_reducible rfl) | apply Wp.block | apply Wp.exitS | apply Wp.retS | apply Wp.exit | apply Wp.ret | apply Wp.skip)
     apply round_next
     ·simp -implicitDefEqProofs (maxSteps := 2000000) (disch := first | exact tt_rfl rfl | omega | (simp only [go_sem] <;> omega) | fail) only [go_sem, norm_eq, Ok.some]; with_reducible rfl
     exact ⟨h2, by simp, trivial⟩
  ·obtain rfl : k = i := by omega
   have es2 : (ts : Int) + ((treeV s j n k k).2 : Int) = ((ts + (treeV s j n k k).2 : Nat) : Int) := by omega
   generalize (treeV s j n k k).1 = tf at *
   generalize (treeV s j n k k).2 = tw at *
   repeat (first | apply Wp.seqA | apply Wp.skipS | apply Wp.blockS | ((first | apply Wp.regS | apply Wp.condV | apply Wp.reg | apply Wp.condW | apply fin_ret); simp -implicitDefEqProofs (maxSteps := 2000000) (disch := first | exact tt_rfl rfl | omega | (simp only [go_sem] <;> omega) | fail) only [go_sem, Int.lt_irrefl, q1, es2] <;> try with_reducible rfl) | apply Wp.block | apply Wp.exitS | apply Wp.retS | apply Wp.exit | apply Wp.ret | apply Wp.skip)
   apply round_next
   ·simp -implicitDefEqProofs (maxSteps := 2000000) (disch := first | exact tt_rfl rfl | omega | (simp only [go_sem] <;> omega) | fail) only [go_sem, norm_eq, Ok.some]; with_reducible rfl
   exact ⟨h', by simp, trivial⟩
 ·obtain rfl : i = l.length := by omega
  have q1 := hln l.length
  have p1 := hpl l.length
  have t1 : (intsV (treeL s j n l.length)).take l.length = intsV (treeL s j n l.length) := List.take_of_length_le (by omega)
  generalize intsV (treeL s j n l.length) = L at *
  repeat (first | apply Wp.seqA | apply Wp.skipS | apply Wp.blockS | ((first | apply Wp.regS | apply Wp.condV | apply Wp.reg | apply Wp.condW | apply fin_ret); simp -implicitDefEqProofs (maxSteps := 2000000) (disch := first | exact tt_rfl rfl | omega | (simp only [go_sem] <;> omega) | fail) only [go_sem, Int.lt_irrefl, hln0, q1, p1, t1] <;> try with_reducible rfl) | apply Wp.block | apply Wp.exitS | apply Wp.retS | apply Wp.exit | apply Wp.ret | apply Wp.skip)
end Go.Abs
