/-
 Chapter 1: a figure that is laid on a ground. No condition beyond those that each theorem names.
-/
import Derived.Test.YtkjlmfabhejbnaaDoorV2
import Derived.Test.YtkjlmfabhejbnaaDoorM7
set_option linter.all false
namespace Go.Abs
set_option maxRecDepth 10000
set_option maxHeartbeats 4000000
theorem made3_ok (picks hooks f : Nat) (x y z : AV) (g : Nat → Nat → Bool) (hp1 : picks ≤ 1000) (hh1 : hooks ≤ 24) (hf : ∀ p h, p < picks → h < hooks → lim F f [iv (p : Int), iv (h : Int), .iptr x 0, .iptr y 0, .iptr z 0] = some (.bool (g p h), [])) :
  lim F 34 [iv (picks : Int), iv (hooks : Int), .func f [.iptr x 0, .iptr y 0, .iptr z 0]] = some (.agg [iv (hooks : Int), .own 1 ((madeN g picks hooks).rows.map fun n : Nat => iv (n : Int))], []) := by
 have hz := Lr_zero g picks hooks;rw [← Lr_end];refine lim_by (fn := a34) (k := 3) (res := [.cell 6 2 true]) rfl rfl rfl (by simp -implicitDefEqProofs (maxSteps := 2000000) (disch := first | exact tt_rfl rfl | omega | (simp only [go_sem] <;> omega) | fail) only [go_sem]) ?_
 try delta mvA
 try delta opA
 try delta tA
 simp -implicitDefEqProofs (maxSteps := 2000000) (disch := first | exact tt_rfl rfl | omega | (simp only [go_sem] <;> omega) | fail) only [go_sem]
 repeat (first | apply Wp.seqA | apply Wp.skipS | apply Wp.blockS | ((first | apply Wp.regS | apply Wp.condV | apply Wp.reg | apply Wp.condW | apply fin_ret); simp -implicitDefEqProofs (maxSteps := 2000000) (disch := first | exact tt_rfl rfl | omega | (simp only [go_sem] <;> omega) | fail) only [go_sem] <;> try with_reducible rfl) | apply Wp.block | apply Wp.exitS | apply Wp.retS | apply Wp.exit | apply Wp.ret | apply Wp.skip)
 apply Wp.loopF picks (fun p => ⟨[(1, iv (hooks : Int)), (2, .func f [.iptr x 0, .iptr y 0, .iptr z 0]), (6, .ptr 384 0 0), (7, .ptr 448 0 0), (14, iv (picks : Int)), (15, iv (p : Int))], [(384, .box [iv 0, .slice 306145 0 0]), (448, .box [iv (hooks : Int), .slice 307169 0 picks]), (306145, .arr 1 []), (307169, .arr 1 (Lr g picks hooks p 0))], [], 10000000⟩) (fun _ => True)
 ·rw [hz]
  simp -implicitDefEqProofs (maxSteps := 2000000) (disch := first | exact tt_rfl rfl | omega | (simp only [go_sem] <;> omega) | fail) only [go_sem, norm_eq, Ok.some]
  rfl
 ·trivial
 intro p hp _;by_cases h : p < picks
 ·have hfp := fun k hk => hf p k h hk
  repeat (first | apply Wp.seqA | apply Wp.skipS | apply Wp.blockS | ((first | apply Wp.regS | apply Wp.condV | apply Wp.reg | apply Wp.condW | apply fin_ret); simp -implicitDefEqProofs (maxSteps := 2000000) (disch := first | exact tt_rfl rfl | omega | (simp only [go_sem] <;> omega) | fail) only [go_sem, h, Int.ofNat_lt] <;> try with_reducible rfl) | apply Wp.block | apply Wp.exitS | apply Wp.retS | apply Wp.exit | apply Wp.ret | apply Wp.skip)
  apply Wp.loopF hooks (fun k => ⟨[(1, iv (hooks : Int)), (2, .func f [.iptr x 0, .iptr y 0, .iptr z 0]), (6, .ptr 384 0 0), (7, .ptr 448 0 0), (8, iv (p : Int)), (14, iv (picks : Int)), (15, iv (p : Int)), (18, iv (hooks : Int)), (19, iv (k : Int))], [(384, .box [iv 0, .slice 306145 0 0]), (448, .box [iv (hooks : Int), .slice 307169 0 picks]), (306145, .arr 1 []), (307169, .arr 1 (Lr g picks hooks p (rowTo (g p) k)))], [], 10000000⟩) (fun _ => True)
  ·simp -implicitDefEqProofs (maxSteps := 2000000) (disch := first | exact tt_rfl rfl | omega | (simp only [go_sem] <;> omega) | fail) only [go_sem, norm_eq, Ok.some]
   try rfl
  ·trivial
  intro k hk _;by_cases hkk : k < hooks
  ·have hc := hfp k hkk
   have hlen := Lr_len g picks hooks p (rowTo (g p) k);have hge := Lr_get (g := g) (hooks := hooks) (v := rowTo (g p) k) h;have hse := Lr_set (g := g) (hooks := hooks) (v := rowTo (g p) k) (w := rowTo (g p) (k + 1)) h;have hst : rowTo (g p) (k + 1) = rowTo (g p) k ||| (if g p k then 2 ^ k else 0) := rfl
   have p1 : 2 ^ k ≤ 2 ^ 24 := Nat.pow_le_pow_right (by omega) (by omega)
   have hlt := rowTo_lt (g p) k;cases hb : g p k with
   | true =>
    rw [hb] at hc hst;rw [if_pos rfl] at hst;have s1 := w_shl1 k (by omega)
    have s2 := w_or (rowTo (g p) k) (2 ^ k) (by omega) (by omega)
    rw [← hst] at s2;generalize rowTo (g p) k = v at *;generalize rowTo (g p) (k + 1) = v' at *;generalize Lr g picks hooks p v = L at *;generalize Lr g picks hooks p v' = L' at *;generalize 2 ^ k = pw at *;repeat (first | apply Wp.seqA | apply Wp.skipS | apply Wp.blockS | ((first | apply Wp.regS | apply Wp.condV | apply Wp.reg | apply Wp.condW | apply fin_ret); simp -implicitDefEqProofs (maxSteps := 2000000) (disch := first | exact tt_rfl rfl | omega | (simp only [go_sem] <;> omega) | fail) only [go_sem, h, hkk, Int.ofNat_lt, hc, hlen, hge, hse, s1, s2, Int.toNat_natCast] <;> try with_reducible rfl) | apply Wp.block | apply Wp.exitS | apply Wp.retS | apply Wp.exit | apply Wp.ret | apply Wp.skip)
    apply round_next
    ·simp -implicitDefEqProofs (maxSteps := 2000000) (disch := first | exact tt_rfl rfl | omega | (simp only [go_sem] <;> omega) | fail) only [go_sem, norm_eq, Ok.some]; with_reducible rfl
    exact ⟨hkk, by simp, trivial⟩
   | false =>
    rw [hb] at hc hst;rw [if_neg (by simp), Nat.or_zero] at hst
    rw [hst];generalize Lr g picks hooks p (rowTo (g p) k) = L at *;repeat (first | apply Wp.seqA | apply Wp.skipS | apply Wp.blockS | ((first | apply Wp.regS | apply Wp.condV | apply Wp.reg | apply Wp.condW | apply fin_ret); simp -implicitDefEqProofs (maxSteps := 2000000) (disch := first | exact tt_rfl rfl | omega | (simp only [go_sem] <;> omega) | fail) only [go_sem, h, hkk, Int.ofNat_lt, hc, hlen, Int.toNat_natCast] <;> try with_reducible rfl) | apply Wp.block | apply Wp.exitS | apply Wp.retS | apply Wp.exit | apply Wp.ret | apply Wp.skip)
    apply round_next
    ·simp -implicitDefEqProofs (maxSteps := 2000000) (disch := first | exact tt_rfl rfl | omega | (simp only [go_sem] <;> omega) | fail) only [go_sem, norm_eq, Ok.some]; with_reducible rfl
    exact ⟨hkk, by simp, trivial⟩
  ·obtain rfl : k = hooks := by omega
   have hnx := Lr_next (g := g) (picks := picks) (hooks := k) (p := p);rw [hnx];repeat (first | apply Wp.seqA | apply Wp.skipS | apply Wp.blockS | ((first | apply Wp.regS | apply Wp.condV | apply Wp.reg | apply Wp.condW | apply fin_ret); simp -implicitDefEqProofs (maxSteps := 2000000) (disch := first | exact tt_rfl rfl | omega | (simp only [go_sem] <;> omega) | fail) only [go_sem, h, Int.ofNat_lt, Int.lt_irrefl] <;> try with_reducible rfl) | apply Wp.block | apply Wp.exitS | apply Wp.retS | apply Wp.exit | apply Wp.ret | apply Wp.skip)
   apply round_next
   ·simp -implicitDefEqProofs (maxSteps := 2000000) (disch := first | exact tt_rfl rfl | omega | (simp only [go_sem] <;> omega) | fail) only [go_sem, norm_eq, Ok.some]; with_reducible rfl
   exact ⟨h, by simp, trivial⟩
 ·obtain rfl : p = picks := by omega
  have hlen := Lr_len g p hooks p 0;have hpl := Lr_plain g p hooks p 0;generalize Lr g p hooks p 0 = L at *;repeat (first | apply Wp.seqA | apply Wp.skipS | apply Wp.blockS | ((first | apply Wp.regS | apply Wp.condV | apply Wp.reg | apply Wp.condW | apply fin_ret); simp -implicitDefEqProofs (maxSteps := 2000000) (disch := first | exact tt_rfl rfl | omega | (simp only [go_sem] <;> omega) | fail) only [go_sem, Int.lt_irrefl, hlen, hpl] <;> try with_reducible rfl) | apply Wp.block | apply Wp.exitS | apply Wp.retS | apply Wp.exit | apply Wp.ret | apply Wp.skip)
theorem check_ok (l : List DesN) (hl : l.length ≤ 1000) (h : ∀ d ∈ l, d.Ok) : lim F 32 [.list 2 (l.map desV)] = some (iv 0, []) := by
 have hln : (l.map desV).length = l.length := by simp
 have hg : ∀ i (h : i < l.length), (l.map desV)[i]? = some (.agg [iv (l[i].hk : Int), .list 1 (natsV l[i].rows)]) := fun i h => by
  rw [List.getElem?_map, List.getElem?_eq_getElem h]; rfl
 have hC : ∀ i (h : i < l.length), lim F 46 [.agg [iv (l[i].hk : Int), .list 1 (natsV l[i].rows)]] = some (iv 0, []) := fun i hi => by
  have hd := h _ (List.getElem_mem hi);have := hd.r60;have hc := Check_ok l[i].a (by simp [DesN.a]; omega)
  rw [checkD_ok hd, DesN.a_av] at hc;exact hc
 generalize l.map desV = es at *;refine lim_by (fn := a32) (k := 1) (res := [.tmp 2]) rfl rfl rfl (by simp -implicitDefEqProofs (maxSteps := 2000000) (disch := first | exact tt_rfl rfl | omega | (simp only [go_sem] <;> omega) | fail) only [go_sem]) ?_
 try delta mvA
 try delta opA
 try delta tA
 simp -implicitDefEqProofs (maxSteps := 2000000) (disch := first | exact tt_rfl rfl | omega | (simp only [go_sem] <;> omega) | fail) only [go_sem]
 repeat (first | apply Wp.seqA | apply Wp.skipS | apply Wp.blockS | ((first | apply Wp.regS | apply Wp.condV | apply Wp.reg | apply Wp.condW | apply fin_ret); simp -implicitDefEqProofs (maxSteps := 2000000) (disch := first | exact tt_rfl rfl | omega | (simp only [go_sem] <;> omega) | fail) only [go_sem, hln] <;> try with_reducible rfl) | apply Wp.block | apply Wp.exitS | apply Wp.retS | apply Wp.exit | apply Wp.ret | apply Wp.skip)
 apply Wp.loopF l.length (fun i => ⟨[(6, .list 2 es), (7, iv (l.length : Int)), (8, iv (i : Int))], [], [], 10000000⟩) (fun _ => True)
 ·simp -implicitDefEqProofs (maxSteps := 2000000) (disch := first | exact tt_rfl rfl | omega | (simp only [go_sem] <;> omega) | fail) only [go_sem, norm_eq, Ok.some]
  rfl
 ·trivial
 intro i hi _;by_cases h : i < l.length
 ·have h1 := hg i h
  have h2 := hC i h;repeat (first | apply Wp.seqA | apply Wp.skipS | apply Wp.blockS | ((first | apply Wp.regS | apply Wp.condV | apply Wp.reg | apply Wp.condW | apply fin_ret); simp -implicitDefEqProofs (maxSteps := 2000000) (disch := first | exact tt_rfl rfl | omega | (simp only [go_sem] <;> omega) | fail) only [go_sem, h, Int.ofNat_lt, h1, h2, hln] <;> try with_reducible rfl) | apply Wp.block | apply Wp.exitS | apply Wp.retS | apply Wp.exit | apply Wp.ret | apply Wp.skip)
  apply round_next
  ·simp -implicitDefEqProofs (maxSteps := 2000000) (disch := first | exact tt_rfl rfl | omega | (simp only [go_sem] <;> omega) | fail) only [go_sem, norm_eq, Ok.some]; with_reducible rfl
  exact ⟨h, by simp, trivial⟩
 ·repeat (first | apply Wp.seqA | apply Wp.skipS | apply Wp.blockS | ((first | apply Wp.regS | apply Wp.condV | apply Wp.reg | apply Wp.condW | apply fin_ret); simp -implicitDefEqProofs (maxSteps := 2000000) (disch := first | exact tt_rfl rfl | omega | (simp only [go_sem] <;> omega) | fail) only [go_sem, h, Int.ofNat_lt] <;> try with_reducible rfl) | apply Wp.block | apply Wp.exitS | apply Wp.retS | apply Wp.exit | apply Wp.ret | apply Wp.skip)
def layN (g f m : DesN) : DesN := madeN (fun p h => if atN m p h then atN f p h else atN g p h) m.rows.length m.hk
theorem layA_ok (g f m : DesN) (hg : g.Ok) (hf : f.Ok) (hm : m.Ok) (p h : Nat) (hp : p ≤ 1000) (hh : h ≤ 1000) : lim F 35 [iv (p : Int), iv (h : Int), .iptr (desV g) 0, .iptr (desV m) 0, .iptr (desV f) 0] = some (.bool (if atN m p h then atN f p h else atN g p h), []) := by
 have a1 := at_ok g hg p h (by omega) (by omega)
 have a2 := at_ok f hf p h (by omega) (by omega)
 have a3 := at_ok m hm p h (by omega) (by omega)
 unfold desV;change lim F _ [.agg [_, .list 1 (natsV g.rows)], _, _] = _ at a1;change lim F _ [.agg [_, .list 1 (natsV f.rows)], _, _] = _ at a2;change lim F _ [.agg [_, .list 1 (natsV m.rows)], _, _] = _ at a3;generalize natsV g.rows = rg at *;generalize natsV f.rows = rf at *;generalize natsV m.rows = rm at *;cases hb : atN m p h with
 | true =>
  rw [hb] at a3;rw [if_pos rfl];refine lim_by (fn := a35) (k := 5) (res := [.tmp 7]) rfl rfl rfl (by simp -implicitDefEqProofs (maxSteps := 2000000) (disch := first | exact tt_rfl rfl | omega | (simp only [go_sem] <;> omega) | fail) only [go_sem]) ?_
  try delta mvA
  try delta opA
  try delta tA
  simp -implicitDefEqProofs (maxSteps := 2000000) (disch := first | exact tt_rfl rfl | omega | (simp only [go_sem] <;> omega) | fail) only [go_sem]
  repeat (first | apply Wp.seqA | apply Wp.skipS | apply Wp.blockS | ((first | apply Wp.regS | apply Wp.condV | apply Wp.reg | apply Wp.condW | apply fin_ret); simp -implicitDefEqProofs (maxSteps := 2000000) (disch := first | exact tt_rfl rfl | omega | (simp only [go_sem] <;> omega) | fail) only [go_sem, a1, a2, a3] <;> try with_reducible rfl) | apply Wp.block | apply Wp.exitS | apply Wp.retS | apply Wp.exit | apply Wp.ret | apply Wp.skip)
 | false =>
  rw [hb] at a3;rw [if_neg (by simp)]
  refine lim_by (fn := a35) (k := 5) (res := [.tmp 7]) rfl rfl rfl (by simp -implicitDefEqProofs (maxSteps := 2000000) (disch := first | exact tt_rfl rfl | omega | (simp only [go_sem] <;> omega) | fail) only [go_sem]) ?_
  try delta mvA
  try delta opA
  try delta tA
  simp -implicitDefEqProofs (maxSteps := 2000000) (disch := first | exact tt_rfl rfl | omega | (simp only [go_sem] <;> omega) | fail) only [go_sem]
  repeat (first | apply Wp.seqA | apply Wp.skipS | apply Wp.blockS | ((first | apply Wp.regS | apply Wp.condV | apply Wp.reg | apply Wp.condW | apply fin_ret); simp -implicitDefEqProofs (maxSteps := 2000000) (disch := first | exact tt_rfl rfl | omega | (simp only [go_sem] <;> omega) | fail) only [go_sem, a1, a2, a3] <;> try with_reducible rfl) | apply Wp.block | apply Wp.exitS | apply Wp.retS | apply Wp.exit | apply Wp.ret | apply Wp.skip)
theorem isLike_ok (a b : DesN) (h1 : a.hk = b.hk) (h2 : a.rows.length = b.rows.length) (h3 : b.rows.length ≤ 1000) : lim F 33 [desV a, desV b] = some (.bool true, []) := by
 have n1 : (natsV a.rows).length = b.rows.length := by simp [h2]
 have n2 : (natsV b.rows).length = b.rows.length := by simp
 unfold desV;rw [h1];generalize natsV a.rows = ra at *;generalize natsV b.rows = rb at *;refine lim_by (fn := a33) (k := 2) (res := [.tmp 4]) rfl rfl rfl (by simp -implicitDefEqProofs (maxSteps := 2000000) (disch := first | exact tt_rfl rfl | omega | (simp only [go_sem] <;> omega) | fail) only [go_sem]) ?_
 try delta mvA
 try delta opA
 try delta tA
 simp -implicitDefEqProofs (maxSteps := 2000000) (disch := first | exact tt_rfl rfl | omega | (simp only [go_sem] <;> omega) | fail) only [go_sem]
 repeat (first | apply Wp.seqA | apply Wp.skipS | apply Wp.blockS | ((first | apply Wp.regS | apply Wp.condV | apply Wp.reg | apply Wp.condW | apply fin_ret); simp -implicitDefEqProofs (maxSteps := 2000000) (disch := first | exact tt_rfl rfl | omega | (simp only [go_sem] <;> omega) | fail) only [go_sem, n1, n2] <;> try with_reducible rfl) | apply Wp.block | apply Wp.exitS | apply Wp.retS | apply Wp.exit | apply Wp.ret | apply Wp.skip)
theorem Lay_ok (g f m : DesN) (hg : g.Ok) (hf : f.Ok) (hm : m.Ok) (h1 : f.hk = m.hk) (h2 : f.rows.length = m.rows.length) : lim F 8 [desV g, desV f, desV m] = some (.tuple [.agg [iv (m.hk : Int), .own 1 (natsV (layN g f m).rows)], iv 0], []) := by
 have h24 := hm.h24;have h60 := hm.r60;have hc := check_ok [g, f, m] (by simp) (fun d hd => by
  simp only [List.mem_cons, List.not_mem_nil, or_false] at hd;rcases hd with rfl | rfl | rfl
  ·exact hg
  ·exact hf
  ·exact hm)
 simp only [List.map_cons, List.map_nil] at hc;have hi := isLike_ok f m h1 h2 (by omega)
 have hM := made3_ok m.rows.length m.hk 35 (desV g) (desV m) (desV f) (fun p h => if atN m p h then atN f p h else atN g p h) (by omega) (by omega) (fun p h hp hh => layA_ok g f m hg hf hm p h (by omega) (by omega))
 change lim F _ _ = some (AV.agg [iv (m.hk : Int), .own 1 (natsV (layN g f m).rows)], []) at hM;have hpl := nat_plain (layN g f m).rows;change (natsV (layN g f m).rows).all AV.plain = true at hpl;have hln : (natsV (layN g f m).rows).length = m.rows.length := by simp [layN, madeN]
 have hln2 : (natsV m.rows).length = m.rows.length := by simp
 have e1 : (natsV (layN g f m).rows).take m.rows.length = natsV (layN g f m).rows := List.take_of_length_le (by omega)
 unfold desV at *;generalize natsV (layN g f m).rows = es at *;generalize natsV g.rows = rg at *;generalize natsV f.rows = rf at *;generalize natsV m.rows = rm at *;refine lim_by (fn := a8) (k := 3) (res := [.cell 6 2 true, .tmp 7]) rfl rfl rfl (by simp -implicitDefEqProofs (maxSteps := 2000000) (disch := first | exact tt_rfl rfl | omega | (simp only [go_sem] <;> omega) | fail) only [go_sem]) ?_
 try delta mvA
 try delta opA
 try delta tA
 simp -implicitDefEqProofs (maxSteps := 2000000) (disch := first | exact tt_rfl rfl | omega | (simp only [go_sem] <;> omega) | fail) only [go_sem]
 repeat (first | apply Wp.seqA | apply Wp.skipS | apply Wp.blockS | ((first | apply Wp.regS | apply Wp.condV | apply Wp.reg | apply Wp.condW | apply fin_ret); simp -implicitDefEqProofs (maxSteps := 2000000) (disch := first | exact tt_rfl rfl | omega | (simp only [go_sem] <;> omega) | fail) only [go_sem, hc, hi, hM, hpl, hln, hln2, e1] <;> try with_reducible rfl) | apply Wp.block | apply Wp.exitS | apply Wp.retS | apply Wp.exit | apply Wp.ret | apply Wp.skip)
end Go.Abs
