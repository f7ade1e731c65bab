/-
 Chapter 12: all sets are tried, by the document. No condition beyond those that each theorem names.
-/
import Derived.Test.YtodpkfillohplaaDoorX21
set_option linter.all false
namespace Go.Abs
set_option maxRecDepth 10000
set_option maxHeartbeats 4000000

/-- can the first k copies be made of a set with so many changes? -/
def okTo (t : Bool) (hk n : Nat) (l : List DesN) (most : Int) (b k : Nat) : Bool := (l.take k).all fun d => madeB t hk n (setD hk n b) d && decide (((madeN t hk n (setD hk n b) d : Nat) : Int) ≤ most)
theorem okTo_succ {t : Bool} {hk n : Nat} {l : List DesN} {most : Int} {b k : Nat} (h : k < l.length) : okTo t hk n l most b (k + 1) = (okTo t hk n l most b k && (madeB t hk n (setD hk n b) l[k] && decide (((madeN t hk n (setD hk n b) l[k] : Nat) : Int) ≤ most))) := by
 unfold okTo
 rw [List.take_succ, List.getElem?_eq_getElem h, List.all_append]
 simp
theorem okTo_false {t : Bool} {hk n : Nat} {l : List DesN} {most : Int} {b k : Nat} (hk' : k ≤ l.length) (h : okTo t hk n l most b k = false) : okTo t hk n l most b l.length = false := by
 unfold okTo at h ⊢
 rw [List.all_eq_false] at h ⊢
 obtain ⟨d, hd, h⟩ := h
 exact ⟨d, by rw [List.take_length]; exact List.mem_of_mem_take hd, h⟩
def goodL (p : Nat → Bool) (b : Nat) : List Nat := (List.range b).filter p
theorem goodL_succ (p : Nat → Bool) (b : Nat) : goodL p (b + 1) = if p b then goodL p b ++ [b] else goodL p b := by
 unfold goodL
 rw [List.range_succ, List.filter_append]
 cases h : p b <;> simp [h]
theorem goodL_len (p : Nat → Bool) (b : Nat) : (goodL p b).length ≤ b := by
 unfold goodL
 exact Nat.le_trans (List.length_filter_le _ _) (by simp)
def hkG (hk : Nat) (G : List Nat) : Nat := if G = [] then 0 else hk
def nG (n : Nat) (G : List Nat) : Nat := if G = [] then 0 else n
def sureG (hk n : Nat) (G : List Nat) : List Nat := if G = [] then [] else upTo (fun i => andA (G.map fun x => setRow hk x i)) n
def canG (hk n : Nat) (G : List Nat) : List Nat := if G = [] then [] else upTo (fun i => orAll (G.map fun x => setRow hk x i)) n
theorem sureG_len (hk n : Nat) (G : List Nat) : (sureG hk n G).length = nG n G := by
 unfold sureG nG
 split <;> simp [upTo]
theorem canG_len (hk n : Nat) (G : List Nat) : (canG hk n G).length = nG n G := by
 unfold canG nG
 split <;> simp [upTo]
theorem upTo_congr {f g : Nat → Nat} {n : Nat} (h : ∀ i, i < n → f i = g i) : upTo f n = upTo g n := by
 unfold upTo
 exact List.map_congr_left fun i hi => h i (List.mem_range.1 hi)
theorem upTo_at (f : Nat → Nat) {n i : Nat} (h : i < n) : (upTo f n).getD i 0 = f i := by simp [upTo, h]
theorem len_pos {G : List Nat} (h : G ≠ []) : 0 < G.length := List.length_pos_iff.2 h
theorem addS_eq (hk n : Nat) (G : List Nat) (b : Nat) : upTo (addS G.length (setD hk n b).rows (sureG hk n G)) n = sureG hk n (G ++ [b]) := by
 have e : sureG hk n (G ++ [b]) = upTo (fun i => andA ((G ++ [b]).map fun x => setRow hk x i)) n := if_neg (by simp)
 rw [e]
 refine upTo_congr fun i hi => ?_
 unfold addS
 rw [setD_at hi, List.map_append, List.map_cons, List.map_nil, andA_snoc]
 by_cases h : G = []
 ·subst h
  simp [andA]
 ·have e2 : sureG hk n G = upTo (fun i => andA (G.map fun x => setRow hk x i)) n := if_neg h
  rw [if_pos (len_pos h), e2, upTo_at _ hi, Nat.and_comm]
  rw [if_neg (by simpa using h)]
theorem addC_eq (hk n : Nat) (G : List Nat) (b : Nat) : upTo (addC G.length (setD hk n b).rows (canG hk n G)) n = canG hk n (G ++ [b]) := by
 have e : canG hk n (G ++ [b]) = upTo (fun i => orAll ((G ++ [b]).map fun x => setRow hk x i)) n := if_neg (by simp)
 rw [e]
 refine upTo_congr fun i hi => ?_
 unfold addC
 rw [setD_at hi, List.map_append, List.map_cons, List.map_nil, orAll_snoc]
 by_cases h : G = []
 ·subst h
  simp [orAll]
 ·have e2 : canG hk n G = upTo (fun i => orAll (G.map fun x => setRow hk x i)) n := if_neg h
  rw [if_pos (len_pos h), e2, upTo_at _ hi, Nat.or_comm]
theorem sureG_lt (hk n : Nat) (G : List Nat) {i : Nat} (h24 : hk ≤ 24) : (sureG hk n G).getD i 0 < 2 ^ 24 := by
 have hp : 2 ^ hk ≤ 2 ^ 24 := Nat.pow_le_pow_right (by omega) h24
 unfold sureG
 split
 ·simp
 ·by_cases hi : i < n
  ·rw [upTo_at _ hi]
   exact Nat.lt_of_lt_of_le (andA_lt (n := hk) fun r hr => by
    obtain ⟨x, _, rfl⟩ := List.mem_map.1 hr
    exact setRow_lt _ _ _) hp
  ·rw [List.getD_eq_getElem?_getD, List.getElem?_eq_none (by simp [upTo]; omega)]
   simp
theorem canG_lt (hk n : Nat) (G : List Nat) {i : Nat} (h24 : hk ≤ 24) : (canG hk n G).getD i 0 < 2 ^ 24 := by
 have hp : 2 ^ hk ≤ 2 ^ 24 := Nat.pow_le_pow_right (by omega) h24
 unfold canG
 split
 ·simp
 ·by_cases hi : i < n
  ·rw [upTo_at _ hi]
   exact Nat.lt_of_lt_of_le (orAll_lt (n := hk) fun r hr => by
    obtain ⟨x, _, rfl⟩ := List.mem_map.1 hr
    exact setRow_lt _ _ _) hp
  ·rw [List.getD_eq_getElem?_getD, List.getElem?_eq_none (by simp [upTo]; omega)]
   simp
def ansV (hk n : Nat) (G : List Nat) : AV := .agg [iv ((hkG hk G : Nat) : Int), .own 1 (natsV (sureG hk n G)), iv ((hkG hk G : Nat) : Int), .own 1 (natsV (canG hk n G)), iv (G.length : Int)]
theorem SetsOk.set {l : List DesN} {hk n : Nat} (h : SetsOk l hk n) {d : DesN} (hd : d ∈ l) (b : Nat) : SetsOk [setD hk n b, d] hk n := by
 obtain ⟨⟨k1, k2⟩, k3, k4⟩ := h.k1
 refine ⟨by simp, by simp, fun x hx => ?_, fun x hx => ?_, fun x hx => ?_⟩
 ·simp only [List.mem_cons, List.not_mem_nil, or_false] at hx
  rcases hx with rfl | rfl
  ·exact setD_ok k1 k2 k3 k4
  ·exact h.ok _ hd
 ·simp only [List.mem_cons, List.not_mem_nil, or_false] at hx
  rcases hx with rfl | rfl
  ·rfl
  ·exact h.hk _ hd
 ·simp only [List.mem_cons, List.not_mem_nil, or_false] at hx
  rcases hx with rfl | rfl
  ·simp [setD, upTo]
  ·exact h.rows _ hd
theorem refOriginal_ok {l : List DesN} {hk n : Nat} (h : SetsOk l hk n) (t : Bool) (most : Int) (hp : hk * n ≤ 9) : lim F 39 [iv (wayOf t), .list 2 (l.map setV), iv most] = some (ansV hk n (goodL (fun b => okTo t hk n l most b l.length) (2 ^ (hk * n))), []) := by
 obtain ⟨⟨k1, k2⟩, k3, k4⟩ := h.k1
 have hl1 := h.l1
 have hl10 := h.l10
 have hSet := fun b hb => Set_ok hk n b k1 (by omega) hb
 have hM := fun b k (hk' : k < l.length) => refMade_ok (h.set (List.getElem_mem hk') b) t
 have hS := fun b k (hk' : k < l.length) => okTo_succ (t := t) (hk := hk) (n := n) (most := most) (b := b) hk'
 have hgj : ∀ k, k < l.length → (l.map setV)[k]? = some (setV (l.getD k ⟨0, []⟩)) := fun k hk' => by
  rw [List.getElem?_map, List.getElem?_eq_getElem hk', List.getD_eq_getElem?_getD, List.getElem?_eq_getElem hk']
  rfl
 have hgd : ∀ k (hk' : k < l.length), l.getD k ⟨0, []⟩ = l[k] := fun k hk' => by
  rw [List.getD_eq_getElem?_getD, List.getElem?_eq_getElem hk']; rfl
 have hg0 := hgj 0 hl1
 have hh0 : (l.getD 0 ⟨0, []⟩).hk = hk := by rw [hgd 0 hl1]; exact h.hk _ (List.getElem_mem _)
 have hr0 : (natsV (l.getD 0 ⟨0, []⟩).rows).length = n := by rw [hgd 0 hl1]; simp; exact h.rows _ (List.getElem_mem _)
 have hln : (l.map setV).length = l.length := by simp
 unfold setV at *
 rw [hh0] at hg0
 generalize natsV (l.getD 0 ⟨0, []⟩).rows = r0 at *
 have m2 : (hk : Int) * (n : Int) = ((hk * n : Nat) : Int) := by simp
 have u1 : IntKind.wrap .u64 ((hk * n : Nat) : Int) = (hk * n : Nat) := wrap_u64 (by omega) (by omega)
 have s1 := w_shl1 (hk * n) (by omega)
 have hpw : 2 ^ (hk * n) ≤ 2 ^ 9 := Nat.pow_le_pow_right (by omega) hp
 generalize hes : (l.map fun d => AV.agg [iv (d.hk : Int), .list 1 (natsV d.rows)]) = es at *
 generalize hpn : hk * n = p at *
 refine lim_by (fn := a39) (k := 3) (res := [.cell 6 5 true]) rfl rfl rfl (by simp -implicitDefEqProofs (maxSteps := 2000000) (disch := first | exact tt_rfl rfl | omega | (simp only [go_sem] <;> omega) | fail) only [go_sem]) ?_
 try delta mvA
 try delta opA
 try delta tA
 simp -implicitDefEqProofs (maxSteps := 2000000) (disch := first | exact tt_rfl rfl | omega | (simp only [go_sem] <;> omega) | fail) only [go_sem]
 repeat (first | apply Wp.seqA | apply Wp.skipS | apply Wp.blockS | ((first | apply Wp.regS | apply Wp.condV | apply Wp.reg | apply Wp.condW | apply fin_ret); simp -implicitDefEqProofs (maxSteps := 2000000) (disch := first | exact tt_rfl rfl | omega | (simp only [go_sem] <;> omega) | fail) only [go_sem, hg0, hr0, hln, hl1] <;> try with_reducible rfl) | apply Wp.block | apply Wp.exitS | apply Wp.retS | apply Wp.exit | apply Wp.ret | apply Wp.skip)
 apply Wp.loopF (2 ^ p) (fun b => ⟨[(0, iv (wayOf t)), (1, .list 2 es), (2, iv most), (6, .ptr 384 0 0), (7, .ptr 448 0 0), (8, iv (hk : Int)), (9, iv (n : Int)), (10, iv (b : Int))], [(384, .box [iv 0, .slice 306145 0 0, iv 0, .slice 306147 0 0, iv 0]), (448, .box [iv ((hkG hk (goodL (fun b => okTo t hk n l most b l.length) b) : Nat) : Int), .slice 307169 0 (nG n (goodL (fun b => okTo t hk n l most b l.length) b)), iv ((hkG hk (goodL (fun b => okTo t hk n l most b l.length) b) : Nat) : Int), .slice 307171 0 (nG n (goodL (fun b => okTo t hk n l most b l.length) b)), iv ((goodL (fun b => okTo t hk n l most b l.length) b).length : Int)]), (306145, .arr 1 []), (306147, .arr 1 []), (307169, .arr 1 (natsV (sureG hk n (goodL (fun b => okTo t hk n l most b l.length) b)))), (307171, .arr 1 (natsV (canG hk n (goodL (fun b => okTo t hk n l most b l.length) b))))], [], 10000000⟩) (fun _ => True)
 ·simp -implicitDefEqProofs (maxSteps := 2000000) (disch := first | exact tt_rfl rfl | omega | (simp only [go_sem] <;> omega) | fail) only [go_sem, norm_eq, Ok.some]
  rfl
 ·trivial
 intro b hb _
 have hGl := goodL_len (fun b => okTo t hk n l most b l.length) b
 have hGs := goodL_succ (fun b => okTo t hk n l most b l.length) b
 generalize hG : goodL (fun b => okTo t hk n l most b l.length) b = G at *
 have q1 : (natsV (sureG hk n G)).length = nG n G := by simp [sureG_len]
 have q2 : (natsV (canG hk n G)).length = nG n G := by simp [canG_len]
 have q3 := nats_plain (sureG hk n G)
 have q4 := nats_plain (canG hk n G)
 have q5 : (natsV (sureG hk n G)).take (nG n G) = natsV (sureG hk n G) := List.take_of_length_le (by omega)
 have q6 : (natsV (canG hk n G)).take (nG n G) = natsV (canG hk n G) := List.take_of_length_le (by omega)
 by_cases h' : b < 2 ^ p
 ·have hset := hSet b h'
  have hA := Add_ok (hkG hk G : Nat) (sureG hk n G) (canG hk n G) G.length hk n (setD hk n b).rows (by simp [setD, upTo]) k4 k2 (by omega) (fun hpos => by
   have : G ≠ [] := List.length_pos_iff.1 hpos
   rw [sureG_len, canG_len]
   unfold nG
   rw [if_neg this]
   exact ⟨rfl, rfl⟩) (fun i hi => ⟨by
   rw [setD_at hi]
   exact up24 (setRow_lt _ _ _) k2, sureG_lt _ _ _ k2, canG_lt _ _ _ k2⟩)
  rw [addS_eq, addC_eq] at hA
  have d1 : (natsV (setD hk n b).rows).length = n := by simp [setD, upTo]
  have d2 := nats_plain (setD hk n b).rows
  have d3 : (natsV (setD hk n b).rows).take n = natsV (setD hk n b).rows := List.take_of_length_le (by omega)
  have hMb := fun k (hk' : k < l.length) => hM b k hk'
  have hSb := fun k (hk' : k < l.length) => hS b k hk'
  have r1 : (natsV (sureG hk n (G ++ [b]))).length = n := by simp [sureG_len, nG]
  have r2 : (natsV (canG hk n (G ++ [b]))).length = n := by simp [canG_len, nG]
  have r3 := nats_plain (sureG hk n (G ++ [b]))
  have r4 := nats_plain (canG hk n (G ++ [b]))
  have r5 : (natsV (sureG hk n (G ++ [b]))).take n = natsV (sureG hk n (G ++ [b])) := List.take_of_length_le (by omega)
  have r6 : (natsV (canG hk n (G ++ [b]))).take n = natsV (canG hk n (G ++ [b])) := List.take_of_length_le (by omega)
  have g1 : hkG hk (G ++ [b]) = hk := if_neg (by simp)
  have g2 : nG n (G ++ [b]) = n := if_neg (by simp)
  have g3 : (G ++ [b]).length = G.length + 1 := by simp
  have hno := fun k (hk' : k ≤ l.length) => okTo_false (t := t) (hk := hk) (n := n) (most := most) (b := b) hk'
  have hml := fun k (hk' : k < l.length) => madeN_le t hk n (setD hk n b) l[k]
  rw [hGs]
  clear hM hS hSet
  have hdh : (setD hk n b).hk = hk := rfl
  simp only [hdh] at hMb
  generalize natsV (setD hk n b).rows = dv at *
  generalize hsv : natsV (sureG hk n G) = sv at *
  generalize hcv : natsV (canG hk n G) = cv at *
  have o0 : okTo t hk n l most b 0 = true := rfl
  repeat (first | apply Wp.seqA | apply Wp.skipS | apply Wp.blockS | ((first | apply Wp.regS | apply Wp.condV | apply Wp.reg | apply Wp.condW | apply fin_ret); simp -implicitDefEqProofs (maxSteps := 2000000) (disch := first | exact tt_rfl rfl | omega | (simp only [go_sem] <;> omega) | fail) only [go_sem, h', Int.ofNat_lt, m2, u1, s1, Int.toNat_natCast, hset, d1, d2, d3] <;> try with_reducible rfl) | apply Wp.block | apply Wp.exitS | apply Wp.retS | apply Wp.exit | apply Wp.ret | apply Wp.skip)
  apply Wp.loopF l.length (fun k => ⟨[(0, iv (wayOf t)), (1, .list 2 es), (2, iv most), (6, .ptr 384 0 0), (7, .ptr 448 0 0), (8, iv (hk : Int)), (9, iv (n : Int)), (10, iv (b : Int)), (11, .ptr 704 0 0), (12, .bool (okTo t hk n l most b k)), (13, iv (k : Int))], [(384, .box [iv 0, .slice 306145 0 0, iv 0, .slice 306147 0 0, iv 0]), (448, .box [iv ((hkG hk G : Nat) : Int), .slice 307169 0 (nG n G), iv ((hkG hk G : Nat) : Int), .slice 307171 0 (nG n G), iv (G.length : Int)]), (704, .box [iv (hk : Int), .slice 311265 0 n]), (306145, .arr 1 []), (306147, .arr 1 []), (307169, .arr 1 sv), (307171, .arr 1 cv), (311265, .arr 1 dv)], [], 10000000⟩) (fun _ => True)
  ·simp -implicitDefEqProofs (maxSteps := 2000000) (disch := first | exact tt_rfl rfl | omega | (simp only [go_sem] <;> omega) | fail) only [go_sem, norm_eq, Ok.some]
   rfl
  ·trivial
  intro k hk' _
  by_cases hok : okTo t hk n l most b k = true
  ·by_cases h2 : k < l.length
   ·have a1 := hgj k h2
    have a2 := hMb k h2
    have a3 := hSb k h2
    have a4 := hml k h2
    rw [hgd k h2] at a1
    rw [a3, hok]
    clear hMb hSb hml hno hgj hgd hg0 hA hset
    generalize madeB t hk n (setD hk n b) l[k] = mb at *
    generalize madeN t hk n (setD hk n b) l[k] = mn at *
    generalize natsV l[k].rows = rk at *
    generalize l[k].hk = hk2 at *
    cases mb
    ·repeat (first | apply Wp.seqA | apply Wp.skipS | apply Wp.blockS | ((first | apply Wp.regS | apply Wp.condV | apply Wp.reg | apply Wp.condW | apply fin_ret); simp -implicitDefEqProofs (maxSteps := 2000000) (disch := first | exact tt_rfl rfl | omega | (simp only [go_sem] <;> omega) | fail) only [go_sem, h2, Int.ofNat_lt, hln, a1, a2, d1, d2, d3, hok, decide_true, decide_false] <;> try with_reducible rfl) | apply Wp.block | apply Wp.exitS | apply Wp.retS | apply Wp.exit | apply Wp.ret | apply Wp.skip)
     apply round_next
     ·simp -implicitDefEqProofs (maxSteps := 2000000) (disch := first | exact tt_rfl rfl | omega | (simp only [go_sem] <;> omega) | fail) only [go_sem, norm_eq, Ok.some]; with_reducible rfl
     exact ⟨h2, by simp, trivial⟩
    ·by_cases hmo : (mn : Int) ≤ most
     ·repeat (first | apply Wp.seqA | apply Wp.skipS | apply Wp.blockS | ((first | apply Wp.regS | apply Wp.condV | apply Wp.reg | apply Wp.condW | apply fin_ret); simp -implicitDefEqProofs (maxSteps := 2000000) (disch := first | exact tt_rfl rfl | omega | (simp only [go_sem] <;> omega) | fail) only [go_sem, h2, Int.ofNat_lt, hln, a1, a2, d1, d2, d3, hok, hmo, decide_true, decide_false] <;> try with_reducible rfl) | apply Wp.block | apply Wp.exitS | apply Wp.retS | apply Wp.exit | apply Wp.ret | apply Wp.skip)
      apply round_next
      ·simp -implicitDefEqProofs (maxSteps := 2000000) (disch := first | exact tt_rfl rfl | omega | (simp only [go_sem] <;> omega) | fail) only [go_sem, norm_eq, Ok.some]; with_reducible rfl
      exact ⟨h2, by simp [hmo], trivial⟩
     ·repeat (first | apply Wp.seqA | apply Wp.skipS | apply Wp.blockS | ((first | apply Wp.regS | apply Wp.condV | apply Wp.reg | apply Wp.condW | apply fin_ret); simp -implicitDefEqProofs (maxSteps := 2000000) (disch := first | exact tt_rfl rfl | omega | (simp only [go_sem] <;> omega) | fail) only [go_sem, h2, Int.ofNat_lt, hln, a1, a2, d1, d2, d3, hok, hmo, decide_true, decide_false] <;> try with_reducible rfl) | apply Wp.block | apply Wp.exitS | apply Wp.retS | apply Wp.exit | apply Wp.ret | apply Wp.skip)
      apply round_next
      ·simp -implicitDefEqProofs (maxSteps := 2000000) (disch := first | exact tt_rfl rfl | omega | (simp only [go_sem] <;> omega) | fail) only [go_sem, norm_eq, Ok.some]; with_reducible rfl
      exact ⟨h2, by simp [hmo], trivial⟩
   ·obtain rfl : k = l.length := by omega
    rw [if_pos hok, g1, g2, g3]
    clear hMb hSb hml hno hgj hgd hg0 hset
    generalize natsV (sureG hk n (G ++ [b])) = sv2 at *
    generalize natsV (canG hk n (G ++ [b])) = cv2 at *
    repeat (first | apply Wp.seqA | apply Wp.skipS | apply Wp.blockS | ((first | apply Wp.regS | apply Wp.condV | apply Wp.reg | apply Wp.condW | apply fin_ret); simp -implicitDefEqProofs (maxSteps := 2000000) (disch := first | exact tt_rfl rfl | omega | (simp only [go_sem] <;> omega) | fail) only [go_sem, Int.lt_irrefl, hln, hok, q1, q2, q3, q4, q5, q6, d1, d2, d3, hA, r1, r2, r3, r4, r5, r6, decide_true, decide_false] <;> try with_reducible rfl) | apply Wp.block | apply Wp.exitS | apply Wp.retS | apply Wp.exit | apply Wp.ret | apply Wp.skip)
    apply round_next
    ·simp -implicitDefEqProofs (maxSteps := 2000000) (disch := first | exact tt_rfl rfl | omega | (simp only [go_sem] <;> omega) | fail) only [go_sem, norm_eq, Ok.some]; with_reducible rfl
    exact ⟨h', by simp, trivial⟩
  ·have hok2 : okTo t hk n l most b k = false := by simpa using hok
   have hn2 := hno k hk' hok2
   rw [hn2]
   simp only [Bool.false_eq_true, if_false]
   clear hMb hSb hml hno hgj hgd hg0 hset hA
   by_cases h2 : k < l.length
   ·repeat (first | apply Wp.seqA | apply Wp.skipS | apply Wp.blockS | ((first | apply Wp.regS | apply Wp.condV | apply Wp.reg | apply Wp.condW | apply fin_ret); simp -implicitDefEqProofs (maxSteps := 2000000) (disch := first | exact tt_rfl rfl | omega | (simp only [go_sem] <;> omega) | fail) only [go_sem, h2, Int.ofNat_lt, hln, hok2, decide_true, decide_false] <;> try with_reducible rfl) | apply Wp.block | apply Wp.exitS | apply Wp.retS | apply Wp.exit | apply Wp.ret | apply Wp.skip)
    apply round_next
    ·simp -implicitDefEqProofs (maxSteps := 2000000) (disch := first | exact tt_rfl rfl | omega | (simp only [go_sem] <;> omega) | fail) only [go_sem, norm_eq, Ok.some]; with_reducible rfl
    exact ⟨h', by simp [hsv, hcv], trivial⟩
   ·repeat (first | apply Wp.seqA | apply Wp.skipS | apply Wp.blockS | ((first | apply Wp.regS | apply Wp.condV | apply Wp.reg | apply Wp.condW | apply fin_ret); simp -implicitDefEqProofs (maxSteps := 2000000) (disch := first | exact tt_rfl rfl | omega | (simp only [go_sem] <;> omega) | fail) only [go_sem, h2, Int.ofNat_lt, hln, hok2, decide_true, decide_false] <;> try with_reducible rfl) | apply Wp.block | apply Wp.exitS | apply Wp.retS | apply Wp.exit | apply Wp.ret | apply Wp.skip)
    apply round_next
    ·simp -implicitDefEqProofs (maxSteps := 2000000) (disch := first | exact tt_rfl rfl | omega | (simp only [go_sem] <;> omega) | fail) only [go_sem, norm_eq, Ok.some]; with_reducible rfl
    exact ⟨h', by simp [hsv, hcv], trivial⟩
 ·obtain rfl : b = 2 ^ p := by omega
  rw [hG]
  unfold ansV
  generalize natsV (sureG hk n G) = sv at *
  generalize natsV (canG hk n G) = cv at *
  repeat (first | apply Wp.seqA | apply Wp.skipS | apply Wp.blockS | ((first | apply Wp.regS | apply Wp.condV | apply Wp.reg | apply Wp.condW | apply fin_ret); simp -implicitDefEqProofs (maxSteps := 2000000) (disch := first | exact tt_rfl rfl | omega | (simp only [go_sem] <;> omega) | fail) only [go_sem, Int.lt_irrefl, m2, u1, s1, Int.toNat_natCast, q1, q2, q3, q4, q5, q6] <;> try with_reducible rfl) | apply Wp.block | apply Wp.exitS | apply Wp.retS | apply Wp.exit | apply Wp.ret | apply Wp.skip)
end Go.Abs
