/-
 Several texts: X21, X22.
-/
import Derived.Test.YtodpkfillohplaaDoorX20
set_option linter.all false
namespace Go.Abs
set_option maxRecDepth 10000
set_option maxHeartbeats 4000000

def upTo (f : Nat → Nat) (i : Nat) : List Nat := (List.range i).map f
theorem upTo_succ (f : Nat → Nat) (i : Nat) : natsV (upTo f (i + 1)) = natsV (upTo f i) ++ [iv (f i : Int)] := by
 unfold upTo natsV
 rw [List.range_succ]; simp
theorem upTo_len (f : Nat → Nat) (i : Nat) : (natsV (upTo f i)).length = i := by simp [upTo, natsV]
def setRow (hk b i : Nat) : Nat := b >>> (i * hk) % 2 ^ hk
def setD (hk n b : Nat) : DesN := ⟨hk, upTo (setRow hk b) n⟩
theorem setRow_lt (hk b i : Nat) : setRow hk b i < 2 ^ hk := Nat.mod_lt _ (Nat.pow_pos (by omega))
theorem setD_at {hk n b i : Nat} (h : i < n) : (setD hk n b).rows.getD i 0 = setRow hk b i := by simp [setD, upTo, h]
theorem setRow_bit {hk b i h : Nat} (hh : h < hk) : (setRow hk b i).testBit h = b.testBit (i * hk + h) := by
 unfold setRow
 rw [Nat.testBit_mod_two_pow, decide_eq_true hh, Bool.true_and, Nat.testBit_shiftRight]
theorem setD_ok {hk n b : Nat} (h1 : 1 ≤ hk) (h2 : hk ≤ 24) (n1 : 1 ≤ n) (n2 : n ≤ 60) : (setD hk n b).Ok := by
 refine ⟨h1, h2, by simp [setD, upTo]; exact n1, by simp [setD, upTo]; exact n2, fun x hx => ?_⟩
 obtain ⟨q, hq, rfl⟩ := List.mem_map.1 hx
 exact setRow_lt _ _ _
theorem Set_ok (hk n b : Nat) (h1 : 1 ≤ hk) (hp : hk * n ≤ 10) (hb : b < 2 ^ (hk * n)) : lim F 73 [iv (hk : Int), iv (n : Int), iv (b : Int)] = some (.agg [iv (hk : Int), .own 1 (natsV (setD hk n b).rows)], []) := by
 have hb2 : b < 1024 := Nat.lt_of_lt_of_le hb (by
  have : 2 ^ (hk * n) ≤ 2 ^ 10 := Nat.pow_le_pow_right (by omega) hp
  omega)
 have hn10 : n ≤ hk * n := Nat.le_mul_of_pos_left n (by omega)
 have hs1 : n = 0 ∨ hk ≤ 10 := by
  rcases Nat.eq_zero_or_pos n with h | h
  ·exact .inl h
  ·exact .inr (Nat.le_trans (Nat.le_mul_of_pos_right hk h) hp)
 change lim F _ _ = some (.agg [_, .own 1 (natsV (upTo (setRow hk b) n))], [])
 have hl := upTo_len (setRow hk b)
 have hu := upTo_succ (setRow hk b)
 refine lim_by (fn := a73) (k := 3) (res := [.cell 6 2 true]) rfl rfl rfl (by simp -implicitDefEqProofs (maxSteps := 2000000) (disch := first | exact tt_rfl rfl | omega | (simp only [go_sem] <;> omega) | fail) only [go_sem]) ?_
 try delta mvA
 try delta opA
 try delta tA
 simp -implicitDefEqProofs (maxSteps := 2000000) (disch := first | exact tt_rfl rfl | omega | (simp only [go_sem] <;> omega) | fail) only [go_sem]
 repeat (first | apply Wp.seqA | apply Wp.skipS | apply Wp.blockS | ((first | apply Wp.regS | apply Wp.condV | apply Wp.reg | apply Wp.condW | apply fin_ret); simp -implicitDefEqProofs (maxSteps := 2000000) (disch := first | exact tt_rfl rfl | omega | (simp only [go_sem] <;> omega) | fail) only [go_sem] <;> try with_reducible rfl) | apply Wp.block | apply Wp.exitS | apply Wp.retS | apply Wp.exit | apply Wp.ret | apply Wp.skip)
 apply Wp.loopF n (fun i => ⟨[(0, iv (hk : Int)), (1, iv (n : Int)), (2, iv (b : Int)), (6, .ptr 384 0 0), (7, .ptr 448 0 0), (8, iv (i : Int))], [(384, .box [iv 0, .slice 306145 0 0]), (448, .box [iv (hk : Int), .slice 307169 0 i]), (306145, .arr 1 []), (307169, .arr 1 (natsV (upTo (setRow hk b) i)))], [], 10000000⟩) (fun _ => True)
 ·simp -implicitDefEqProofs (maxSteps := 2000000) (disch := first | exact tt_rfl rfl | omega | (simp only [go_sem] <;> omega) | fail) only [go_sem, norm_eq, Ok.some]
  rfl
 ·trivial
 intro i hi _
 by_cases h' : i < n
 ·have hk10 : hk ≤ 10 := by omega
  have m1 : i * hk ≤ 10 := by
   have : i * hk ≤ n * hk := Nat.mul_le_mul_right hk (by omega)
   rw [Nat.mul_comm n hk] at this
   omega
  have m2 : (i : Int) * (hk : Int) = ((i * hk : Nat) : Int) := by simp
  have u1 : IntKind.wrap .u64 ((i * hk : Nat) : Int) = (i * hk : Nat) := wrap_u64 (by omega) (by omega)
  have u2 : IntKind.wrap .u64 (hk : Int) = hk := wrap_u64 (by omega) (by omega)
  have s1 := w_shr b (i * hk) (by omega)
  have s2 := w_shl1 hk (by omega)
  have p1 : 2 ^ hk ≤ 2 ^ 10 := Nat.pow_le_pow_right (by omega) hk10
  have p2 : 0 < 2 ^ hk := Nat.pow_pos (by omega)
  have e1 : Int.tmod ((b >>> (i * hk) : Nat) : Int) ((2 ^ hk : Nat) : Int) = ((setRow hk b i : Nat) : Int) := by
   rw [Int.tmod_eq_emod_of_nonneg (Int.natCast_nonneg _)]
   unfold setRow
   rfl
  have sl := setRow_lt hk b i
  have l1 := hl i
  rw [hu i]
  generalize natsV (upTo (setRow hk b) i) = L at *
  generalize setRow hk b i = r at *
  generalize b >>> (i * hk) = z at *
  generalize i * hk = ih at *
  generalize 2 ^ hk = pk at *
  repeat (first | apply Wp.seqA | apply Wp.skipS | apply Wp.blockS | ((first | apply Wp.regS | apply Wp.condV | apply Wp.reg | apply Wp.condW | apply fin_ret); simp -implicitDefEqProofs (maxSteps := 2000000) (disch := first | exact tt_rfl rfl | omega | (simp only [go_sem] <;> omega) | fail) only [go_sem, h', Int.ofNat_lt, m2, u1, u2, s1, s2, e1, Int.toNat_natCast, l1, show ¬ (pk : Int) = 0 by omega] <;> try with_reducible rfl) | apply Wp.block | apply Wp.exitS | apply Wp.retS | apply Wp.exit | apply Wp.ret | apply Wp.skip)
  apply round_next
  ·simp -implicitDefEqProofs (maxSteps := 2000000) (disch := first | exact tt_rfl rfl | omega | (simp only [go_sem] <;> omega) | fail) only [go_sem, norm_eq, Ok.some]; with_reducible rfl
  exact ⟨h', by simp, trivial⟩
 ·obtain rfl : i = n := by omega
  have l1 := hl i
  have t1 : (natsV (upTo (setRow hk b) i)).take i = natsV (upTo (setRow hk b) i) := List.take_of_length_le (by omega)
  have P1 := nats_plain (upTo (setRow hk b) i)
  generalize natsV (upTo (setRow hk b) i) = L at *
  repeat (first | apply Wp.seqA | apply Wp.skipS | apply Wp.blockS | ((first | apply Wp.regS | apply Wp.condV | apply Wp.reg | apply Wp.condW | apply fin_ret); simp -implicitDefEqProofs (maxSteps := 2000000) (disch := first | exact tt_rfl rfl | omega | (simp only [go_sem] <;> omega) | fail) only [go_sem, Int.lt_irrefl, l1, t1, P1] <;> try with_reducible rfl) | apply Wp.block | apply Wp.exitS | apply Wp.retS | apply Wp.exit | apply Wp.ret | apply Wp.skip)
def addS (many : Nat) (r s : List Nat) (i : Nat) : Nat := if 0 < many then r.getD i 0 &&& s.getD i 0 else r.getD i 0
def addC (many : Nat) (r s : List Nat) (i : Nat) : Nat := if 0 < many then r.getD i 0 ||| s.getD i 0 else r.getD i 0
theorem Add_ok (x : Int) (sr cr : List Nat) (many hk n : Nat) (rows : List Nat) (hn : rows.length = n) (h60 : n ≤ 60) (hk24 : hk ≤ 24) (hm : many ≤ 100000) (h1 : 0 < many → sr.length = n ∧ cr.length = n) (hlt : ∀ i, i < n → rows.getD i 0 < 2 ^ 24 ∧ sr.getD i 0 < 2 ^ 24 ∧ cr.getD i 0 < 2 ^ 24) : lim F 74 [.agg [iv x, .list 1 (natsV sr), iv x, .list 1 (natsV cr), iv (many : Int)], .agg [iv (hk : Int), .list 1 (natsV rows)]] = some (.agg [iv (hk : Int), .own 1 (natsV (upTo (addS many rows sr) n)), iv (hk : Int), .own 1 (natsV (upTo (addC many rows cr) n)), iv ((many + 1 : Nat) : Int)], []) := by
 have l1 := upTo_len (addS many rows sr)
 have l2 := upTo_len (addC many rows cr)
 have u1 := upTo_succ (addS many rows sr)
 have u2 := upTo_succ (addC many rows cr)
 have hr := fun i (hi : i < n) => nats_at (l := rows) (i := i) (by omega)
 have n1 : (natsV rows).length = n := by simp [hn]
 refine lim_by (fn := a74) (k := 2) (res := [.cell 4 5 true]) rfl rfl rfl (by simp -implicitDefEqProofs (maxSteps := 2000000) (disch := first | exact tt_rfl rfl | omega | (simp only [go_sem] <;> omega) | fail) only [go_sem]) ?_
 try delta mvA
 try delta opA
 try delta tA
 simp -implicitDefEqProofs (maxSteps := 2000000) (disch := first | exact tt_rfl rfl | omega | (simp only [go_sem] <;> omega) | fail) only [go_sem]
 repeat (first | apply Wp.seqA | apply Wp.skipS | apply Wp.blockS | ((first | apply Wp.regS | apply Wp.condV | apply Wp.reg | apply Wp.condW | apply fin_ret); simp -implicitDefEqProofs (maxSteps := 2000000) (disch := first | exact tt_rfl rfl | omega | (simp only [go_sem] <;> omega) | fail) only [go_sem] <;> try with_reducible rfl) | apply Wp.block | apply Wp.exitS | apply Wp.retS | apply Wp.exit | apply Wp.ret | apply Wp.skip)
 apply Wp.loopF n (fun i => ⟨[(2, .ptr 128 0 0), (3, .ptr 192 0 0), (4, .ptr 256 0 0), (5, .ptr 320 0 0), (6, iv (i : Int))], [(128, .box [iv x, .list 1 (natsV sr), iv x, .list 1 (natsV cr), iv (many : Int)]), (192, .box [iv (hk : Int), .list 1 (natsV rows)]), (256, .box [iv 0, .slice 304097 0 0, iv 0, .slice 304099 0 0, iv 0]), (320, .box [iv (hk : Int), .slice 305121 0 i, iv (hk : Int), .slice 305123 0 i, iv ((many + 1 : Nat) : Int)]), (304097, .arr 1 []), (304099, .arr 1 []), (305121, .arr 1 (natsV (upTo (addS many rows sr) i))), (305123, .arr 1 (natsV (upTo (addC many rows cr) i)))], [], 10000000⟩) (fun _ => True)
 ·simp -implicitDefEqProofs (maxSteps := 2000000) (disch := first | exact tt_rfl rfl | omega | (simp only [go_sem] <;> omega) | fail) only [go_sem, norm_eq, Ok.some]
  rfl
 ·trivial
 intro i hi _
 by_cases h' : i < n
 ·have a1 := hr i h'
  obtain ⟨b1, b2, b3⟩ := hlt i h'
  have l1 := l1 i
  have l2 := l2 i
  rw [u1 i, u2 i]
  clear u1 u2 hr hlt
  by_cases hm0 : 0 < many
  ·obtain ⟨h1a, h1b⟩ := h1 hm0
   have a2 := nats_at (l := sr) (i := i) (by omega)
   have a3 := nats_at (l := cr) (i := i) (by omega)
   have e1 : addS many rows sr i = rows.getD i 0 &&& sr.getD i 0 := by unfold addS; rw [if_pos hm0]
   have e2 : addC many rows cr i = rows.getD i 0 ||| cr.getD i 0 := by unfold addC; rw [if_pos hm0]
   have w1 := w_and (rows.getD i 0) (sr.getD i 0) (by omega) (by omega)
   have w2 := w_or (rows.getD i 0) (cr.getD i 0) (by omega) (by omega)
   rw [← e1] at w1
   rw [← e2] at w2
   have n2 : (natsV sr).length = n := by simp [h1a]
   have n3 : (natsV cr).length = n := by simp [h1b]
   generalize natsV (upTo (addS many rows sr) i) = L1 at *
   generalize natsV (upTo (addC many rows cr) i) = L2 at *
   generalize addS many rows sr i = v1 at *
   generalize addC many rows cr i = v2 at *
   generalize rows.getD i 0 = r1 at *
   generalize sr.getD i 0 = r2 at *
   generalize cr.getD i 0 = r3 at *
   generalize natsV rows = va at *
   generalize natsV sr = vb at *
   generalize natsV cr = vc at *
   repeat (first | apply Wp.seqA | apply Wp.skipS | apply Wp.blockS | ((first | apply Wp.regS | apply Wp.condV | apply Wp.reg | apply Wp.condW | apply fin_ret); simp -implicitDefEqProofs (maxSteps := 2000000) (disch := first | exact tt_rfl rfl | omega | (simp only [go_sem] <;> omega) | fail) only [go_sem, h', Int.ofNat_lt, a1, a2, a3, w1, w2, n1, n2, n3, hm0, Int.natCast_pos, l1, l2] <;> try with_reducible rfl) | apply Wp.block | apply Wp.exitS | apply Wp.retS | apply Wp.exit | apply Wp.ret | apply Wp.skip)
   apply round_next
   ·simp -implicitDefEqProofs (maxSteps := 2000000) (disch := first | exact tt_rfl rfl | omega | (simp only [go_sem] <;> omega) | fail) only [go_sem, norm_eq, Ok.some]; with_reducible rfl
   exact ⟨h', by simp, trivial⟩
  ·have e1 : addS many rows sr i = rows.getD i 0 := by unfold addS; rw [if_neg hm0]
   have e2 : addC many rows cr i = rows.getD i 0 := by unfold addC; rw [if_neg hm0]
   rw [e1, e2]
   generalize natsV (upTo (addS many rows sr) i) = L1 at *
   generalize natsV (upTo (addC many rows cr) i) = L2 at *
   generalize rows.getD i 0 = r1 at *
   generalize natsV rows = va at *
   generalize natsV sr = vb at *
   generalize natsV cr = vc at *
   repeat (first | apply Wp.seqA | apply Wp.skipS | apply Wp.blockS | ((first | apply Wp.regS | apply Wp.condV | apply Wp.reg | apply Wp.condW | apply fin_ret); simp -implicitDefEqProofs (maxSteps := 2000000) (disch := first | exact tt_rfl rfl | omega | (simp only [go_sem] <;> omega) | fail) only [go_sem, h', Int.ofNat_lt, a1, n1, hm0, Int.natCast_pos, l1, l2] <;> try with_reducible rfl) | apply Wp.block | apply Wp.exitS | apply Wp.retS | apply Wp.exit | apply Wp.ret | apply Wp.skip)
   apply round_next
   ·simp -implicitDefEqProofs (maxSteps := 2000000) (disch := first | exact tt_rfl rfl | omega | (simp only [go_sem] <;> omega) | fail) only [go_sem, norm_eq, Ok.some]; with_reducible rfl
   exact ⟨h', by simp, trivial⟩
 ·obtain rfl : i = n := by omega
  have l1 := l1 i
  have l2 := l2 i
  have t1 : (natsV (upTo (addS many rows sr) i)).take i = natsV (upTo (addS many rows sr) i) := List.take_of_length_le (by omega)
  have t2 : (natsV (upTo (addC many rows cr) i)).take i = natsV (upTo (addC many rows cr) i) := List.take_of_length_le (by omega)
  have P1 := nats_plain (upTo (addS many rows sr) i)
  have P2 := nats_plain (upTo (addC many rows cr) i)
  generalize natsV (upTo (addS many rows sr) i) = L1 at *
  generalize natsV (upTo (addC many rows cr) i) = L2 at *
  repeat (first | apply Wp.seqA | apply Wp.skipS | apply Wp.blockS | ((first | apply Wp.regS | apply Wp.condV | apply Wp.reg | apply Wp.condW | apply fin_ret); simp -implicitDefEqProofs (maxSteps := 2000000) (disch := first | exact tt_rfl rfl | omega | (simp only [go_sem] <;> omega) | fail) only [go_sem, Int.lt_irrefl, n1, l1, l2, t1, t2, P1, P2] <;> try with_reducible rfl) | apply Wp.block | apply Wp.exitS | apply Wp.retS | apply Wp.exit | apply Wp.ret | apply Wp.skip)
end Go.Abs

set_option linter.all false
namespace Go.Abs
set_option maxRecDepth 10000
set_option maxHeartbeats 4000000

/-- can the first k copies be made of a set with so many changes? -/
def okTo (t : Bool) (hk n : Nat) (l : List DesN) (most : Int) (b k : Nat) : Bool := (l.take k).all fun d => madeB t hk n (setD hk n b) d && decide (((madeN t hk n (setD hk n b) d : Nat) : Int) ≤ most)
def goodL (p : Nat → Bool) (b : Nat) : List Nat := (List.range b).filter p
theorem goodL_succ (p : Nat → Bool) (b : Nat) : goodL p (b + 1) = if p b then goodL p b ++ [b] else goodL p b := by
 unfold goodL
 rw [List.range_succ, List.filter_append]
 cases h : p b <;> simp [h]
theorem goodL_len (p : Nat → Bool) (b : Nat) : (goodL p b).length ≤ b := by
 unfold goodL
 exact Nat.le_trans (List.length_filter_le _ _) (by simp)
def hkG (hk : Nat) (G : List Nat) : Nat := if G = [] then 0 else hk
def nG (n : Nat) (G : List Nat) : Nat := if G = [] then 0 else n
def sureG (hk n : Nat) (G : List Nat) : List Nat := if G = [] then [] else upTo (fun i => andA (G.map fun x => setRow hk x i)) n
def canG (hk n : Nat) (G : List Nat) : List Nat := if G = [] then [] else upTo (fun i => orAll (G.map fun x => setRow hk x i)) n
theorem sureG_len (hk n : Nat) (G : List Nat) : (sureG hk n G).length = nG n G := by
 unfold sureG nG
 split <;> simp [upTo]
theorem canG_len (hk n : Nat) (G : List Nat) : (canG hk n G).length = nG n G := by
 unfold canG nG
 split <;> simp [upTo]
theorem upTo_congr {f g : Nat → Nat} {n : Nat} (h : ∀ i, i < n → f i = g i) : upTo f n = upTo g n := by
 unfold upTo
 exact List.map_congr_left fun i hi => h i (List.mem_range.1 hi)
theorem upTo_at (f : Nat → Nat) {n i : Nat} (h : i < n) : (upTo f n).getD i 0 = f i := by simp [upTo, h]
theorem len_pos {G : List Nat} (h : G ≠ []) : 0 < G.length := List.length_pos_iff.2 h
theorem addS_eq (hk n : Nat) (G : List Nat) (b : Nat) : upTo (addS G.length (setD hk n b).rows (sureG hk n G)) n = sureG hk n (G ++ [b]) := by
 have e : sureG hk n (G ++ [b]) = upTo (fun i => andA ((G ++ [b]).map fun x => setRow hk x i)) n := if_neg (by simp)
 rw [e]
 refine upTo_congr fun i hi => ?_
 unfold addS
 rw [setD_at hi, List.map_append, List.map_cons, List.map_nil, andA_snoc]
 by_cases h : G = []
 ·subst h
  simp [andA]
 ·have e2 : sureG hk n G = upTo (fun i => andA (G.map fun x => setRow hk x i)) n := if_neg h
  rw [if_pos (len_pos h), e2, upTo_at _ hi, Nat.and_comm]
  rw [if_neg (by simpa using h)]
theorem addC_eq (hk n : Nat) (G : List Nat) (b : Nat) : upTo (addC G.length (setD hk n b).rows (canG hk n G)) n = canG hk n (G ++ [b]) := by
 have e : canG hk n (G ++ [b]) = upTo (fun i => orAll ((G ++ [b]).map fun x => setRow hk x i)) n := if_neg (by simp)
 rw [e]
 refine upTo_congr fun i hi => ?_
 unfold addC
 rw [setD_at hi, List.map_append, List.map_cons, List.map_nil, orAll_snoc]
 by_cases h : G = []
 ·subst h
  simp [orAll]
 ·have e2 : canG hk n G = upTo (fun i => orAll (G.map fun x => setRow hk x i)) n := if_neg h
  rw [if_pos (len_pos h), e2, upTo_at _ hi, Nat.or_comm]
theorem sureG_lt (hk n : Nat) (G : List Nat) {i : Nat} (h24 : hk ≤ 24) : (sureG hk n G).getD i 0 < 2 ^ 24 := by
 have hp : 2 ^ hk ≤ 2 ^ 24 := Nat.pow_le_pow_right (by omega) h24
 unfold sureG
 split
 ·simp
 ·by_cases hi : i < n
  ·rw [upTo_at _ hi]
   exact Nat.lt_of_lt_of_le (andA_lt (n := hk) fun r hr => by
    obtain ⟨x, _, rfl⟩ := List.mem_map.1 hr
    exact setRow_lt _ _ _) hp
  ·rw [List.getD_eq_getElem?_getD, List.getElem?_eq_none (by simp [upTo]; omega)]
   simp
theorem canG_lt (hk n : Nat) (G : List Nat) {i : Nat} (h24 : hk ≤ 24) : (canG hk n G).getD i 0 < 2 ^ 24 := by
 have hp : 2 ^ hk ≤ 2 ^ 24 := Nat.pow_le_pow_right (by omega) h24
 unfold canG
 split
 ·simp
 ·by_cases hi : i < n
  ·rw [upTo_at _ hi]
   exact Nat.lt_of_lt_of_le (orAll_lt (n := hk) fun r hr => by
    obtain ⟨x, _, rfl⟩ := List.mem_map.1 hr
    exact setRow_lt _ _ _) hp
  ·rw [List.getD_eq_getElem?_getD, List.getElem?_eq_none (by simp [upTo]; omega)]
   simp
def ansV (hk n : Nat) (G : List Nat) : AV := .agg [iv ((hkG hk G : Nat) : Int), .own 1 (natsV (sureG hk n G)), iv ((hkG hk G : Nat) : Int), .own 1 (natsV (canG hk n G)), iv (G.length : Int)]
theorem SetsOk.set {l : List DesN} {hk n : Nat} (h : SetsOk l hk n) {d : DesN} (hd : d ∈ l) (b : Nat) : SetsOk [setD hk n b, d] hk n := by
 obtain ⟨⟨k1, k2⟩, k3, k4⟩ := h.k1
 refine ⟨by simp, by simp, fun x hx => ?_, fun x hx => ?_, fun x hx => ?_⟩
 ·simp only [List.mem_cons, List.not_mem_nil, or_false] at hx
  rcases hx with rfl | rfl
  ·exact setD_ok k1 k2 k3 k4
  ·exact h.ok _ hd
 ·simp only [List.mem_cons, List.not_mem_nil, or_false] at hx
  rcases hx with rfl | rfl
  ·rfl
  ·exact h.hk _ hd
 ·simp only [List.mem_cons, List.not_mem_nil, or_false] at hx
  rcases hx with rfl | rfl
  ·simp [setD, upTo]
  ·exact h.rows _ hd
end Go.Abs
