/-
 Chapter 12: the fewest copies, by the document. No condition beyond those that each theorem names.
-/
import Derived.Test.YtodpkfillohplaaDoorY4
import Derived.Test.YtodpkfillohplaaDoorX11
set_option linter.all false
namespace Go.Abs
set_option maxRecDepth 10000
set_option maxHeartbeats 4000000

theorem Less_ok (a b : List Nat) (ha : a.length ≤ 1000) (hb : b.length ≤ 1000) : lim F 68 [.list 1 (natsV a), .list 1 (natsV b)] = some (.bool (lessL a b), []) := by
 have n1 : (natsV a).length = a.length := by simp
 have n2 : (natsV b).length = b.length := by simp
 have ga : ∀ i (hi : i < a.length), (natsV a)[i]? = some (iv ((a[i] : Nat) : Int)) := fun i hi => by
  rw [natsV, List.getElem?_map, List.getElem?_eq_getElem hi]; rfl
 have gb : ∀ i (hi : i < b.length), (natsV b)[i]? = some (iv ((b[i] : Nat) : Int)) := fun i hi => by
  rw [natsV, List.getElem?_map, List.getElem?_eq_getElem hi]; rfl
 unfold lessL
 by_cases h : a.length = b.length
 ·rw [if_pos h]
  have hstep : ∀ i (h1 : i < a.length) (h2 : i < b.length), lexL (a.drop i) (b.drop i) = if a[i] = b[i] then lexL (a.drop (i + 1)) (b.drop (i + 1)) else decide (a[i] < b[i]) := fun i h1 h2 => by
   rw [List.drop_eq_getElem_cons h1, List.drop_eq_getElem_cons h2, lexL]
  have hend : lexL (a.drop a.length) (b.drop a.length) = false := by rw [List.drop_length]; rfl
  have h0 : lexL a b = lexL (a.drop 0) (b.drop 0) := rfl
  generalize lexL a b = r at *
  generalize natsV a = va at *
  generalize natsV b = vb at *
  refine lim_by (fn := a68) (k := 2) (res := [.tmp 4]) rfl rfl rfl (by simp -implicitDefEqProofs (maxSteps := 2000000) (disch := first | exact tt_rfl rfl | omega | (simp only [go_sem] <;> omega) | fail) only [go_sem]) ?_
  simp -implicitDefEqProofs (maxSteps := 2000000) (disch := first | exact tt_rfl rfl | omega | (simp only [go_sem] <;> omega) | fail) only [go_sem]
  repeat (first | apply Wp.seqA | apply Wp.skipS | apply Wp.blockS | ((first | apply Wp.regS | apply Wp.condV | apply Wp.reg | apply Wp.condW | apply fin_ret); simp -implicitDefEqProofs (maxSteps := 2000000) (disch := first | exact tt_rfl rfl | omega | (simp only [go_sem] <;> omega) | fail) only [go_sem, n1, n2, h] <;> try with_reducible rfl) | apply Wp.block | apply Wp.exitS | apply Wp.retS | apply Wp.exit | apply Wp.ret | apply Wp.skip)
  apply Wp.loopF a.length (fun i => ⟨[(0, .list 1 va), (1, .list 1 vb), (5, iv (i : Int))], [], [], 10000000⟩) (fun i => r = lexL (a.drop i) (b.drop i))
  ·simp -implicitDefEqProofs (maxSteps := 2000000) (disch := first | exact tt_rfl rfl | omega | (simp only [go_sem] <;> omega) | fail) only [go_sem, norm_eq, Ok.some]
   rfl
  ·exact h0
  intro i hi hr
  by_cases h' : i < a.length
  ·have h2 : i < b.length := by omega
   have a1 := ga i h'
   have a2 := gb i h2
   have a3 := hstep i h' h2
   generalize a[i] = x at *
   generalize b[i] = y at *
   by_cases e : x = y
   ·rw [if_pos e] at a3
    repeat (first | apply Wp.seqA | apply Wp.skipS | apply Wp.blockS | ((first | apply Wp.regS | apply Wp.condV | apply Wp.reg | apply Wp.condW | apply fin_ret); simp -implicitDefEqProofs (maxSteps := 2000000) (disch := first | exact tt_rfl rfl | omega | (simp only [go_sem] <;> omega) | fail) only [go_sem, h', h2, Int.ofNat_lt, a1, a2, n1, n2, e] <;> try with_reducible rfl) | apply Wp.block | apply Wp.exitS | apply Wp.retS | apply Wp.exit | apply Wp.ret | apply Wp.skip)
    apply round_next
    ·simp -implicitDefEqProofs (maxSteps := 2000000) (disch := first | exact tt_rfl rfl | omega | (simp only [go_sem] <;> omega) | fail) only [go_sem, norm_eq, Ok.some]; with_reducible rfl
    exact ⟨h', by simp, by rw [hr, a3]⟩
   ·rw [if_neg e] at a3
    rw [hr, a3]
    repeat (first | apply Wp.seqA | apply Wp.skipS | apply Wp.blockS | ((first | apply Wp.regS | apply Wp.condV | apply Wp.reg | apply Wp.condW | apply fin_ret); simp -implicitDefEqProofs (maxSteps := 2000000) (disch := first | exact tt_rfl rfl | omega | (simp only [go_sem] <;> omega) | fail) only [go_sem, h', h2, Int.ofNat_lt, a1, a2, n1, n2, show ¬ (x : Int) = y by omega] <;> try with_reducible rfl) | apply Wp.block | apply Wp.exitS | apply Wp.retS | apply Wp.exit | apply Wp.ret | apply Wp.skip)
  ·obtain rfl : i = a.length := by omega
   rw [hr, hend]
   repeat (first | apply Wp.seqA | apply Wp.skipS | apply Wp.blockS | ((first | apply Wp.regS | apply Wp.condV | apply Wp.reg | apply Wp.condW | apply fin_ret); simp -implicitDefEqProofs (maxSteps := 2000000) (disch := first | exact tt_rfl rfl | omega | (simp only [go_sem] <;> omega) | fail) only [go_sem, Int.lt_irrefl, n1] <;> try with_reducible rfl) | apply Wp.block | apply Wp.exitS | apply Wp.retS | apply Wp.exit | apply Wp.ret | apply Wp.skip)
 ·rw [if_neg h]
  generalize natsV a = va at *
  generalize natsV b = vb at *
  refine lim_by (fn := a68) (k := 2) (res := [.tmp 4]) rfl rfl rfl (by simp -implicitDefEqProofs (maxSteps := 2000000) (disch := first | exact tt_rfl rfl | omega | (simp only [go_sem] <;> omega) | fail) only [go_sem]) ?_
  simp -implicitDefEqProofs (maxSteps := 2000000) (disch := first | exact tt_rfl rfl | omega | (simp only [go_sem] <;> omega) | fail) only [go_sem]
  repeat (first | apply Wp.seqA | apply Wp.skipS | apply Wp.blockS | ((first | apply Wp.regS | apply Wp.condV | apply Wp.reg | apply Wp.condW | apply fin_ret); simp -implicitDefEqProofs (maxSteps := 2000000) (disch := first | exact tt_rfl rfl | omega | (simp only [go_sem] <;> omega) | fail) only [go_sem, n1, n2, show ¬ (a.length : Int) = b.length by omega, Int.ofNat_lt] <;> try with_reducible rfl) | apply Wp.block | apply Wp.exitS | apply Wp.retS | apply Wp.exit | apply Wp.ret | apply Wp.skip)

/-- some of the sets -/
def subD (l : List DesN) (x : List Nat) : List DesN := x.map fun k => l.getD k ⟨0, []⟩
theorem subD_mem {l : List DesN} {x : List Nat} (hx : ∀ k ∈ x, k < l.length) : ∀ d ∈ subD l x, d ∈ l := fun d hd => by
 obtain ⟨k, hk, rfl⟩ := List.mem_map.1 hd
 rw [List.getD_eq_getElem?_getD, List.getElem?_eq_getElem (hx k hk)]
 exact List.getElem_mem _
theorem SetsOk.sub {l : List DesN} {hk n : Nat} (h : SetsOk l hk n) {x : List Nat} (h1 : 1 ≤ x.length) (h10 : x.length ≤ 10) (hx : ∀ k ∈ x, k < l.length) : SetsOk (subD l x) hk n :=
 ⟨by simpa [subD] using h1, by simpa [subD] using h10, fun d hd => h.ok d (subD_mem hx d hd), fun d hd => h.hk d (subD_mem hx d hd), fun d hd => h.rows d (subD_mem hx d hd)⟩
theorem setsN_sub {l : List DesN} {x : List Nat} (t : Bool) (hk : Nat) (hx : ∀ k ∈ x, k < l.length) : setsN t hk (subD l x) = someN (setsN t hk l) x := by
 unfold setsN subD someN
 rw [List.map_map]
 refine List.map_congr_left fun k hk' => ?_
 have hkl := hx k hk'
 show turnL t hk (l.getD k ⟨0, []⟩).rows = (l.map fun d => turnL t hk d.rows).getD k []
 rw [List.getD_eq_getElem?_getD, List.getD_eq_getElem?_getD, List.getElem?_map, List.getElem?_eq_getElem hkl]; rfl
theorem turnL_inj {t : Bool} {hk : Nat} {a b : List Nat} (h : turnL t hk a = turnL t hk b) : a = b := by
 have := congrArg (turnL t hk) h
 rwa [turnL_twice, turnL_twice] at this
theorem same_is {l : List DesN} {hk n : Nat} (h : SetsOk l hk n) (t : Bool) {x : List Nat} (h1 : 1 ≤ x.length) (h10 : x.length ≤ 10) (hx : ∀ k ∈ x, k < l.length) : lim F 22 [.agg [iv (hk : Int), .list 1 (natsV (firstN t hk n (subD l x)).rows)], .agg [iv (hk : Int), .list 1 (natsV (firstN t hk n l).rows)]] = some (.bool (isN (setsN t hk l) n x), []) := by
 have := Same_ok (firstN t hk n (subD l x)).a (firstN t hk n l).a (by have := h.k1.2.2; simp [firstN, DesN.a]; omega)
 rw [setV_av, setV_av] at this
 have e : decide ((firstN t hk n (subD l x)).a.hk = (firstN t hk n l).a.hk ∧ (firstN t hk n (subD l x)).a.rows = (firstN t hk n l).a.rows) = isN (setsN t hk l) n x := by
  unfold isN
  rw [decide_eq_decide]
  unfold firstN DesN.a
  rw [setsN_sub t hk hx]
  constructor
  ·rintro ⟨_, h⟩
   have h2 := congrArg (fun l => l.map Int.toNat) h
   simp only [List.map_map] at h2
   have e : (Int.toNat ∘ fun n : Nat => (n : Int)) = id := by funext n; simp
   rw [e, List.map_id, List.map_id] at h2
   exact turnL_inj h2
  ·intro h
   exact ⟨rfl, by rw [h]⟩
 rw [e] at this
 exact this
theorem setL_succ (q b : Nat) : setL (q + 1) b = setL q b ++ if b.testBit q then [q] else [] := by
 unfold setL
 rw [List.range_succ, List.filter_append, List.filter_cons, List.filter_nil]
theorem subD_append (l : List DesN) (x y : List Nat) : subD l (x ++ y) = subD l x ++ subD l y := by simp [subD]
@[simp] theorem subD_len (l : List DesN) (x : List Nat) : (subD l x).length = x.length := by simp [subD]
theorem refNeeded_ok {l : List DesN} {hk n : Nat} (h : SetsOk l hk n) (t : Bool) : lim F 30 [iv (wayOf t), .list 2 (l.map setV)] = some (.own 1 (natsV (bestR (setsN t hk l) n l.length (2 ^ l.length - 1))), []) := by
 obtain ⟨⟨k1, k2⟩, k3, k4⟩ := h.k1
 have hl10 := h.l10
 have hl1 := h.l1
 have hF := refFirst_ok h t
 have hln : (l.map setV).length = l.length := by simp
 have hall : isN (setsN t hk l) n (List.range l.length) = true := by
  have := isN_all (setsN t hk l) n
  simpa using this
 have hB := bestR_ok (setsN t hk l) n l.length hall
 have hBl := bestR_len (setsN t hk l) n l.length
 have hg : ∀ k (hk' : k < l.length), (l.map setV)[k]? = some (setV (l.getD k ⟨0, []⟩)) := fun k hk' => by
  rw [List.getElem?_map, List.getD_eq_getElem?_getD, List.getElem?_eq_getElem hk']; rfl
 have n1 : (natsV (firstN t hk n l).rows).length = n := by simp [firstN]
 have P1 := nats_plain (firstN t hk n l).rows
 have t1 : (natsV (firstN t hk n l).rows).take n = natsV (firstN t hk n l).rows := List.take_of_length_le (by omega)
 have hbs : ∀ k, bestR (setsN t hk l) n l.length (k + 1) = if lessL (setL l.length (k + 1)) (bestR (setsN t hk l) n l.length k) = true ∧ isN (setsN t hk l) n (setL l.length (k + 1)) = true then setL l.length (k + 1) else bestR (setsN t hk l) n l.length k := fun k => rfl
 have hb0 : bestR (setsN t hk l) n l.length 0 = List.range l.length := rfl
 have hsm := fun x h1 h10 hx => same_is h t (x := x) h1 h10 hx
 have hsub := fun x h1 h10 hx => refFirst_ok (h.sub (x := x) h1 h10 hx) t
 have s1 := w_shl1 l.length (by omega)
 have hp2 : 2 ^ l.length ≤ 2 ^ 10 := Nat.pow_le_pow_right (by omega) hl10
 have hp1 := Nat.two_pow_pos l.length
 generalize hes : l.map setV = es at *
 refine lim_by (fn := a30) (k := 2) (res := [.tmp 4]) rfl rfl rfl (by simp -implicitDefEqProofs (maxSteps := 2000000) (disch := first | exact tt_rfl rfl | omega | (simp only [go_sem] <;> omega) | fail) only [go_sem]) ?_
 simp -implicitDefEqProofs (maxSteps := 2000000) (disch := first | exact tt_rfl rfl | omega | (simp only [go_sem] <;> omega) | fail) only [go_sem]
 repeat (first | apply Wp.seqA | apply Wp.skipS | apply Wp.blockS | ((first | apply Wp.regS | apply Wp.condV | apply Wp.reg | apply Wp.condW | apply fin_ret); simp -implicitDefEqProofs (maxSteps := 2000000) (disch := first | exact tt_rfl rfl | omega | (simp only [go_sem] <;> omega) | fail) only [go_sem] <;> try with_reducible rfl) | apply Wp.block | apply Wp.exitS | apply Wp.retS | apply Wp.exit | apply Wp.ret | apply Wp.skip)
 apply Wp.loopF l.length (fun i => ⟨[(0, iv (wayOf t)), (1, .list 2 es), (5, .slice 320 0 i), (6, iv (i : Int))], [(320, .arr 1 (natsV (List.range i)))], [], 10000000⟩) (fun _ => True)
 ·simp -implicitDefEqProofs (maxSteps := 2000000) (disch := first | exact tt_rfl rfl | omega | (simp only [go_sem] <;> omega) | fail) only [go_sem, norm_eq, Ok.some]
  rfl
 ·trivial
 intro i hi _
 by_cases h' : i < l.length
 ·have e1 : natsV (List.range (i + 1)) = natsV (List.range i) ++ [iv (i : Int)] := by rw [List.range_succ]; unfold natsV; rw [List.map_append]; rfl
  have e2 : (natsV (List.range i)).length = i := by simp
  rw [e1]
  generalize natsV (List.range i) = ri at *
  repeat (first | apply Wp.seqA | apply Wp.skipS | apply Wp.blockS | ((first | apply Wp.regS | apply Wp.condV | apply Wp.reg | apply Wp.condW | apply fin_ret); simp -implicitDefEqProofs (maxSteps := 2000000) (disch := first | exact tt_rfl rfl | omega | (simp only [go_sem] <;> omega) | fail) only [go_sem, hln, h', Int.ofNat_lt, e2] <;> try with_reducible rfl) | apply Wp.block | apply Wp.exitS | apply Wp.retS | apply Wp.exit | apply Wp.ret | apply Wp.skip)
  apply round_next
  ·simp -implicitDefEqProofs (maxSteps := 2000000) (disch := first | exact tt_rfl rfl | omega | (simp only [go_sem] <;> omega) | fail) only [go_sem, norm_eq, Ok.some]; with_reducible rfl
  exact ⟨h', by simp, trivial⟩
 obtain rfl : i = l.length := by omega
 have e2 : (natsV (List.range l.length)).length = l.length := by simp
 repeat (first | apply Wp.seqA | apply Wp.skipS | apply Wp.blockS | ((first | apply Wp.regS | apply Wp.condV | apply Wp.reg | apply Wp.condW | apply fin_ret); simp -implicitDefEqProofs (maxSteps := 2000000) (disch := first | exact tt_rfl rfl | omega | (simp only [go_sem] <;> omega) | fail) only [go_sem, hln, Int.lt_irrefl] <;> try with_reducible rfl) | apply Wp.block | apply Wp.exitS | apply Wp.retS | apply Wp.exit | apply Wp.ret | apply Wp.skip)
 clear hi h'
 have hsL : ∀ b, (setL l.length b).length ≤ l.length := fun b => Nat.le_trans (List.length_filter_le _ _) (by simp)
 have hsp := fun b (h0 : b ≠ 0) (hb : b < 2 ^ l.length) => setL_pos h0 hb
 have u1 : IntKind.wrap .u64 (l.length : Int) = l.length := wrap_u64 (by omega) (by omega)
 have u3 : (0 : Int) ≤ l.length := by omega
 generalize setsN t hk l = s at *
 generalize 2 ^ l.length = W at *
 apply Wp.loopF (W - 1) (fun k => ⟨[(0, iv (wayOf t)), (1, .list 2 es), (5, .slice 320 0 (bestR s n l.length k).length), (7, iv ((k + 1 : Nat) : Int))], [(320, .arr 1 (natsV (bestR s n l.length k)))], [], 10000000⟩) (fun _ => True)
 ·simp -implicitDefEqProofs (maxSteps := 2000000) (disch := first | exact tt_rfl rfl | omega | (simp only [go_sem] <;> omega) | fail) only [go_sem, norm_eq, Ok.some]
  rw [hb0, List.length_range]
  rfl
 ·trivial
 intro k hk' _
 by_cases h' : k < W - 1
 ·obtain ⟨b1, b2, b3⟩ := hB k
  have b4 := hBl k
  have b5 := hbs k
  generalize bestR s n l.length (k + 1) = best' at *
  generalize bestR s n l.length k = best at *
  have n0 : (natsV best).length = best.length := by simp
  have t0 : (natsV best).take best.length = natsV best := List.take_of_length_le (by simp)
  repeat (first | apply Wp.seqA | apply Wp.skipS | apply Wp.blockS | ((first | apply Wp.regS | apply Wp.condV | apply Wp.reg | apply Wp.condW | apply fin_ret); simp -implicitDefEqProofs (maxSteps := 2000000) (disch := first | exact tt_rfl rfl | omega | (simp only [go_sem] <;> omega) | fail) only [go_sem, hln, u1, u3, Int.toNat_natCast, s1, show ((k + 1 : Nat) : Int) < (W : Int) by omega] <;> try with_reducible rfl) | apply Wp.block | apply Wp.exitS | apply Wp.retS | apply Wp.exit | apply Wp.ret | apply Wp.skip)
  apply Wp.loopF l.length (fun q => ⟨[(0, iv (wayOf t)), (1, .list 2 es), (5, .slice 320 0 best.length), (7, iv ((k + 1 : Nat) : Int)), (8, .slice 512 0 (setL q (k + 1)).length), (9, .slice 576 0 (setL q (k + 1)).length), (10, iv (q : Int))], [(320, .arr 1 (natsV best)), (512, .arr 1 (natsV (setL q (k + 1)))), (576, .arr 2 ((subD l (setL q (k + 1))).map setV))], [], 10000000⟩) (fun _ => True)
  ·simp -implicitDefEqProofs (maxSteps := 2000000) (disch := first | exact tt_rfl rfl | omega | (simp only [go_sem] <;> omega) | fail) only [go_sem, norm_eq, Ok.some]
   rfl
  ·trivial
  intro q hq _
  by_cases hq' : q < l.length
  ·have a1 := hg q hq'
   have s2 := w_shr (k + 1) q (by omega)
   have u2 : IntKind.wrap .u64 (q : Int) = q := wrap_u64 (by omega) (by omega)
   have u4 : (0 : Int) ≤ q := by omega
   have sb : (k + 1) >>> q < 9223372036854775808 := by rw [Nat.shiftRight_eq_div_pow]; have := Nat.div_le_self (k + 1) (2 ^ q); omega
   have s3 := w_and1 ((k + 1) >>> q) sb
   have hbit := bit_eq (k + 1) q
   have hsl : (setL q (k + 1)).length ≤ q := Nat.le_trans (List.length_filter_le _ _) (by simp)
   have e1 := setL_succ q (k + 1)
   have c1 : (natsV (setL q (k + 1))).length = (setL q (k + 1)).length := by simp
   have c2 : ((subD l (setL q (k + 1))).map setV).length = (setL q (k + 1)).length := by simp
   generalize (k + 1) >>> q &&& 1 = y at *
   generalize (k + 1) >>> q = z at *
   by_cases hy : (y : Int) = 1
   ·have hbt : (k + 1).testBit q = true := by rw [← hbit]; exact decide_eq_true hy
    rw [hbt, if_pos rfl] at e1
    have e2 : natsV (setL (q + 1) (k + 1)) = natsV (setL q (k + 1)) ++ [iv (q : Int)] := by rw [e1]; unfold natsV; rw [List.map_append]; rfl
    have e3 : (subD l (setL (q + 1) (k + 1))).map setV = (subD l (setL q (k + 1))).map setV ++ [setV (l.getD q ⟨0, []⟩)] := by rw [e1, subD_append, List.map_append]; rfl
    have e4 : (setL (q + 1) (k + 1)).length = (setL q (k + 1)).length + 1 := by rw [e1]; simp
    rw [e2, e3, e4]
    generalize (subD l (setL q (k + 1))).map setV = dx at *
    unfold setV at a1 ⊢
    generalize natsV (setL q (k + 1)) = sx at *
    generalize (setL q (k + 1)).length = c at *
    generalize natsV (l.getD q ⟨0, []⟩).rows = rq at *
    repeat (first | apply Wp.seqA | apply Wp.skipS | apply Wp.blockS | ((first | apply Wp.regS | apply Wp.condV | apply Wp.reg | apply Wp.condW | apply fin_ret); simp -implicitDefEqProofs (maxSteps := 2000000) (disch := first | exact tt_rfl rfl | omega | (simp only [go_sem] <;> omega) | fail) only [go_sem, hln, hq', Int.ofNat_lt, u2, u4, Int.toNat_natCast, s2, s3, hy, a1, c1, c2] <;> try with_reducible rfl) | apply Wp.block | apply Wp.exitS | apply Wp.retS | apply Wp.exit | apply Wp.ret | apply Wp.skip)
    apply round_next
    ·simp -implicitDefEqProofs (maxSteps := 2000000) (disch := first | exact tt_rfl rfl | omega | (simp only [go_sem] <;> omega) | fail) only [go_sem, norm_eq, Ok.some]; with_reducible rfl
    exact ⟨hq', by simp, trivial⟩
   ·have hbt : (k + 1).testBit q = false := by rw [← hbit]; exact decide_eq_false hy
    rw [hbt, if_neg (by simp), List.append_nil] at e1
    rw [e1]
    repeat (first | apply Wp.seqA | apply Wp.skipS | apply Wp.blockS | ((first | apply Wp.regS | apply Wp.condV | apply Wp.reg | apply Wp.condW | apply fin_ret); simp -implicitDefEqProofs (maxSteps := 2000000) (disch := first | exact tt_rfl rfl | omega | (simp only [go_sem] <;> omega) | fail) only [go_sem, hln, hq', Int.ofNat_lt, u2, u4, Int.toNat_natCast, s2, s3, hy] <;> try with_reducible rfl) | apply Wp.block | apply Wp.exitS | apply Wp.retS | apply Wp.exit | apply Wp.ret | apply Wp.skip)
    apply round_next
    ·simp -implicitDefEqProofs (maxSteps := 2000000) (disch := first | exact tt_rfl rfl | omega | (simp only [go_sem] <;> omega) | fail) only [go_sem, norm_eq, Ok.some]; with_reducible rfl
    exact ⟨hq', by simp, trivial⟩
  obtain rfl : q = l.length := by omega
  have hx1 := hsp (k + 1) (by omega) (by omega)
  have hx2 := hsL (k + 1)
  have hx3 : ∀ j ∈ setL l.length (k + 1), j < l.length := fun j hj => setL_lt hj
  have hLs := Less_ok (setL l.length (k + 1)) best (by omega) (by omega)
  have hS := hsub (setL l.length (k + 1)) hx1 (by omega) hx3
  have hM := hsm (setL l.length (k + 1)) hx1 (by omega) hx3
  have n5 : (natsV (firstN t hk n (subD l (setL l.length (k + 1)))).rows).length = n := by simp [firstN]
  have P5 := nats_plain (firstN t hk n (subD l (setL l.length (k + 1)))).rows
  have t5 : (natsV (firstN t hk n (subD l (setL l.length (k + 1)))).rows).take n = natsV (firstN t hk n (subD l (setL l.length (k + 1)))).rows := List.take_of_length_le (by omega)
  have d1 : (natsV (setL l.length (k + 1))).length = (setL l.length (k + 1)).length := by simp
  have d2 : (natsV (setL l.length (k + 1))).take (setL l.length (k + 1)).length = natsV (setL l.length (k + 1)) := List.take_of_length_le (by simp)
  have d3 : ((subD l (setL l.length (k + 1))).map setV).length = (setL l.length (k + 1)).length := by simp
  have d4 : ((subD l (setL l.length (k + 1))).map setV).take (setL l.length (k + 1)).length = (subD l (setL l.length (k + 1))).map setV := List.take_of_length_le (by simp)
  clear hB hBl hbs hsm hsub hsL hsp hg hx3 b1 b2 b3 hall hb0
  generalize setL l.length (k + 1) = xs at *
  generalize isN s n xs = bi at *
  generalize lessL xs best = bl at *
  generalize natsV (firstN t hk n (subD l xs)).rows = fx at *
  generalize natsV (firstN t hk n l).rows = fl at *
  generalize (subD l xs).map setV = dx at *
  generalize hsx : natsV xs = sx at *
  cases bl
  ·have b6 : best' = best := by rw [b5]; simp
   rw [b6]
   repeat (first | apply Wp.seqA | apply Wp.skipS | apply Wp.blockS | ((first | apply Wp.regS | apply Wp.condV | apply Wp.reg | apply Wp.condW | apply fin_ret); simp -implicitDefEqProofs (maxSteps := 2000000) (disch := first | exact tt_rfl rfl | omega | (simp only [go_sem] <;> omega) | fail) only [go_sem, hln, Int.lt_irrefl, d1, d2, n0, t0, hLs, Bool.false_eq_true, if_false] <;> try with_reducible rfl) | apply Wp.block | apply Wp.exitS | apply Wp.retS | apply Wp.exit | apply Wp.ret | apply Wp.skip)
   apply round_next
   ·simp -implicitDefEqProofs (maxSteps := 2000000) (disch := first | exact tt_rfl rfl | omega | (simp only [go_sem] <;> omega) | fail) only [go_sem, norm_eq, Ok.some]; with_reducible rfl
   exact ⟨h', by simp, trivial⟩
  ·cases bi
   ·have b6 : best' = best := by rw [b5]; simp
    rw [b6]
    repeat (first | apply Wp.seqA | apply Wp.skipS | apply Wp.blockS | ((first | apply Wp.regS | apply Wp.condV | apply Wp.reg | apply Wp.condW | apply fin_ret); simp -implicitDefEqProofs (maxSteps := 2000000) (disch := first | exact tt_rfl rfl | omega | (simp only [go_sem] <;> omega) | fail) only [go_sem, hln, Int.lt_irrefl, d1, d2, d3, d4, n0, t0, hLs, hS, hF, hM, n1, P1, t1, n5, P5, t5] <;> try with_reducible rfl) | apply Wp.block | apply Wp.exitS | apply Wp.retS | apply Wp.exit | apply Wp.ret | apply Wp.skip)
    apply round_next
    ·simp -implicitDefEqProofs (maxSteps := 2000000) (disch := first | exact tt_rfl rfl | omega | (simp only [go_sem] <;> omega) | fail) only [go_sem, norm_eq, Ok.some]; with_reducible rfl
    exact ⟨h', by simp, trivial⟩
   ·have b6 : best' = xs := by rw [b5]; simp
    rw [b6, hsx]
    repeat (first | apply Wp.seqA | apply Wp.skipS | apply Wp.blockS | ((first | apply Wp.regS | apply Wp.condV | apply Wp.reg | apply Wp.condW | apply fin_ret); simp -implicitDefEqProofs (maxSteps := 2000000) (disch := first | exact tt_rfl rfl | omega | (simp only [go_sem] <;> omega) | fail) only [go_sem, hln, Int.lt_irrefl, d1, d2, d3, d4, n0, t0, hLs, hS, hF, hM, n1, P1, t1, n5, P5, t5] <;> try with_reducible rfl) | apply Wp.block | apply Wp.exitS | apply Wp.retS | apply Wp.exit | apply Wp.ret | apply Wp.skip)
    apply round_next
    ·simp -implicitDefEqProofs (maxSteps := 2000000) (disch := first | exact tt_rfl rfl | omega | (simp only [go_sem] <;> omega) | fail) only [go_sem, norm_eq, Ok.some]; with_reducible rfl
    exact ⟨h', by simp, trivial⟩
 ·obtain rfl : k = W - 1 := by omega
  repeat (first | apply Wp.seqA | apply Wp.skipS | apply Wp.blockS | ((first | apply Wp.regS | apply Wp.condV | apply Wp.reg | apply Wp.condW | apply fin_ret); simp -implicitDefEqProofs (maxSteps := 2000000) (disch := first | exact tt_rfl rfl | omega | (simp only [go_sem] <;> omega) | fail) only [go_sem, hln, u1, u3, Int.toNat_natCast, s1, show ¬ ((W - 1 + 1 : Nat) : Int) < (W : Int) by omega] <;> try with_reducible rfl) | apply Wp.block | apply Wp.exitS | apply Wp.retS | apply Wp.exit | apply Wp.ret | apply Wp.skip)
  have n0 : (natsV (bestR s n l.length (W - 1))).length = (bestR s n l.length (W - 1)).length := by simp
  have t0 : (natsV (bestR s n l.length (W - 1))).take (bestR s n l.length (W - 1)).length = natsV (bestR s n l.length (W - 1)) := List.take_of_length_le (by simp)
  have P0 := nats_plain (bestR s n l.length (W - 1))
  generalize natsV (bestR s n l.length (W - 1)) = bv at *
  generalize (bestR s n l.length (W - 1)).length = bc at *
  repeat (first | apply Wp.seqA | apply Wp.skipS | apply Wp.blockS | ((first | apply Wp.regS | apply Wp.condV | apply Wp.reg | apply Wp.condW | apply fin_ret); simp -implicitDefEqProofs (maxSteps := 2000000) (disch := first | exact tt_rfl rfl | omega | (simp only [go_sem] <;> omega) | fail) only [go_sem, n0, t0, P0] <;> try with_reducible rfl) | apply Wp.block | apply Wp.exitS | apply Wp.retS | apply Wp.exit | apply Wp.ret | apply Wp.skip)
  rw [exSl_own _ _ _ _ n0.symm]
  rfl
end Go.Abs
