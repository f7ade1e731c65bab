/-
 Several texts: T2, T4.
-/
import Derived.Test.YtkjlmfabhejbnaaDoorR4
import Derived.Test.YtkjlmfabhejbnaaDoorV4
set_option linter.all false
namespace Go.Abs
set_option maxRecDepth 10000
set_option maxHeartbeats 4000000
def tabF (F : Nat → Nat → Bool) (n k : Nat) : List (List Bool) := (List.range n).map fun q => (List.range k).map (F q)
@[simp] theorem tabF_len (F : Nat → Nat → Bool) (n k : Nat) : (tabF F n k).length = n := by simp [tabF]
theorem tabF_congr {F G : Nat → Nat → Bool} {n k : Nat} (h : ∀ q c, q < n → c < k → F q c = G q c) : tabF F n k = tabF G n k :=
 List.map_congr_left fun q hq => List.map_congr_left fun c hc => h q c (List.mem_range.1 hq) (List.mem_range.1 hc)
def ptB (d : DesN) (q c : Nat) : Bool := (d.rows.getD q 0).testBit c
theorem tabN_F (d : DesN) : tabN d d.rows.length = tabF (ptB d) d.rows.length d.hk := by
 unfold tabN;rw [List.take_length];show (d.rows.map fun r => ptsT r d.hk) = (List.range d.rows.length).map fun q => (List.range d.hk).map (ptB d q)
 refine List.ext_getElem (by simp) fun i h1 h2 => ?_
 have hi : i < d.rows.length := by simpa using h2
 have e : d.rows.getD i 0 = d.rows[i] := by
  rw [List.getD_eq_getElem?_getD, List.getElem?_eq_getElem hi]; rfl
 rw [List.getElem_map, List.getElem_map, List.getElem_range];refine List.map_congr_left fun c _ => ?_
 show d.rows[i].testBit c = (d.rows.getD i 0).testBit c
 rw [e]
def bV (f : Nat → Bool) (k : Nat) : List AV := (List.range k).map fun c => .bool (f c)
@[simp] theorem bV_len (f : Nat → Bool) (k : Nat) : (bV f k).length = k := by simp [bV]
theorem bV_at {f : Nat → Bool} {k c : Nat} (h : c < k) : (bV f k)[c]? = some (.bool (f c)) := by
 unfold bV;rw [List.getElem?_map, List.getElem?_range h]; rfl
theorem tabW_map (F : Nat → Nat → Bool) (n k : Nat) : tabW (tabF F n k) = (List.range n).map fun q => .own 1 (bV (F q) k) := by
 unfold tabW tabF;rw [List.map_map];refine List.map_congr_left fun q _ => ?_
 show AV.own 1 (((List.range k).map (F q)).map fun b => .bool b) = _
 rw [List.map_map]; rfl
section
variable {F G : Nat → Nat → Bool} {n k q c : Nat}
theorem tabW_at (h : q < n) : (tabW (tabF F n k))[q]? = some (.own 1 (bV (F q) k)) := by
 rw [tabW_map, List.getElem?_map, List.getElem?_range h]; rfl
theorem cells_one : ∀ l : List (List Bool), (tabW l).flatMap AV.cells = tabW l
 | [] => rfl
 | x :: l => by
  have := cells_one l;unfold tabW at this ⊢;rw [List.map_cons, List.flatMap_cons, this]; rfl
theorem tabW_cell (h : q < n) : ((tabW (tabF F n k)).flatMap AV.cells)[q]? = some (.own 1 (bV (F q) k)) := by
 rw [cells_one]; exact tabW_at h
theorem tabSet_W (x : AV) : ∀ (l : List (List Bool)) (q : Nat), tabSet q x (tabW l) = (tabW l).set q x
 | [], q => rfl
 | y :: l, 0 => rfl
 | y :: l, q + 1 => by
  have := tabSet_W x l q;unfold tabW at this ⊢;rw [List.map_cons, List.set_cons_succ, ← this];show (if q + 1 < 1 then _ else _ :: tabSet (q + 1 - 1) x _) = _
  rw [if_neg (by omega)]; rfl
theorem tabW_set (hq : q < n) {v : Bool} (h1 : G q c = v) (h2 : ∀ q' c', q' < n → c' < k → ¬ (q' = q ∧ c' = c) → G q' c' = F q' c') : (tabW (tabF F n k)).set q (.own 1 ((bV (F q) k).set c (.bool v))) = tabW (tabF G n k) := by
 rw [tabW_map, tabW_map];refine List.ext_getElem (by simp) fun i g1 g2 => ?_
 have hi : i < n := by simpa using g2
 rw [List.getElem_set];simp only [List.getElem_map, List.getElem_range];by_cases e : q = i
 ·subst e
  rw [if_pos rfl]
  congr 1
  unfold bV;refine List.ext_getElem (by simp) fun j g3 g4 => ?_
  have hj : j < k := by simpa using g4
  rw [List.getElem_set];simp only [List.getElem_map, List.getElem_range];by_cases e : c = j
  ·subst e
   rw [if_pos rfl, h1]
  ·rw [if_neg e, h2 q j hi hj fun h => e h.2.symm]
 ·rw [if_neg e]
  congr 1
  unfold bV;refine List.map_congr_left fun j hj => ?_
  rw [h2 i j hi (List.mem_range.1 hj) fun h => e h.1.symm]
end
def stF (V B : Nat → Nat → Bool) (i h : Nat) (q c : Nat) : Bool := if q < i ∨ (q = i ∧ c < h) then V q c else B q c
theorem stF_zero (V B : Nat → Nat → Bool) (n k : Nat) : tabF (stF V B 0 0) n k = tabF B n k := tabF_congr fun q c _ _ => by
 unfold stF;rw [if_neg (by omega)]
theorem stF_next (V B : Nat → Nat → Bool) (n k i : Nat) : tabF (stF V B i k) n k = tabF (stF V B (i + 1) 0) n k := tabF_congr fun q c _ hc => by
 unfold stF;by_cases e : q < i ∨ (q = i ∧ c < k)
 ·rw [if_pos e, if_pos (by omega)]
 ·rw [if_neg e, if_neg (by omega)]
theorem stF_end (V B : Nat → Nat → Bool) (n k : Nat) : tabF (stF V B n 0) n k = tabF V n k := tabF_congr fun q c hq _ => by
 unfold stF;rw [if_pos (by omega)]
theorem stF_set (V B : Nat → Nat → Bool) {n k i h : Nat} (hi : i < n) : (tabW (tabF (stF V B i h) n k)).set i (.own 1 ((bV (stF V B i h i) k).set h (.bool (V i h)))) = tabW (tabF (stF V B i (h + 1)) n k) := by
 refine tabW_set hi (by unfold stF; rw [if_pos (by omega)]) fun q c _ _ hne => ?_
 unfold stF;by_cases e : q < i ∨ (q = i ∧ c < h)
 ·rw [if_pos e, if_pos (by omega)]
 ·rw [if_neg e, if_neg (by omega)]
theorem design_F (F : Nat → Nat → Bool) (n k : Nat) : (tabF F n k).map (fun l => iv ((rowOf l : Nat) : Int)) = natsV ((List.range n).map fun q => rowTo (F q) k) := by
 unfold tabF natsV;rw [List.map_map, List.map_map];refine List.map_congr_left fun q _ => ?_
 show iv ((rowOf ((List.range k).map (F q)) : Nat) : Int) = iv ((rowTo (F q) k : Nat) : Int)
 have e : rowOf ((List.range k).map (F q)) = rowTo (F q) k := by
  have hlt := rowOf_lt ((List.range k).map (F q));rw [List.length_map, List.length_range] at hlt;refine row_eq hlt (rowTo_lt _ _) fun j hj => ?_
  rw [rowOf_bit, rowTo_bit, decide_eq_true hj, Bool.true_and, List.getD_eq_getElem?_getD, List.getElem?_map, List.getElem?_range hj]; rfl
 rw [e]
def layE (g f m : DesA) : Int := if firstE [g, f, m] ≠ 0 then firstE [g, f, m] else if likeT f m then 0 else 4
def difE (f m : DesA) : Int := if firstE [f, m] ≠ 0 then firstE [f, m] else if likeT f m then 0 else 4
theorem isLike_any (a b : DesA) : lim F 33 [a.av, b.av] = some (.bool (likeT a b), []) := by
 have n1 : (a.rows.map fun n => iv n).length = a.rows.length := by simp
 have n2 : (b.rows.map fun n => iv n).length = b.rows.length := by simp
 unfold DesA.av likeT;generalize (a.rows.map fun n => iv n) = ra at *
 generalize (b.rows.map fun n => iv n) = rb at *
 by_cases h1 : a.hk = b.hk
 ·by_cases h2 : a.rows.length = b.rows.length
  ·rw [decide_eq_true h1, decide_eq_true h2]
   refine lim_by (fn := a33) (k := 2) (res := [.tmp 4]) rfl rfl rfl (by simp -implicitDefEqProofs (maxSteps := 2000000) (disch := first | exact tt_rfl rfl | omega | (simp only [go_sem] <;> omega) | fail) only [go_sem]) ?_
   try delta mvA
   try delta opA
   try delta tA
   simp -implicitDefEqProofs (maxSteps := 2000000) (disch := first | exact tt_rfl rfl | omega | (simp only [go_sem] <;> omega) | fail) only [go_sem]
   repeat (first | apply Wp.seqA | apply Wp.skipS | apply Wp.blockS | ((first | apply Wp.regS | apply Wp.condV | apply Wp.reg | apply Wp.condW | apply fin_ret); simp -implicitDefEqProofs (maxSteps := 2000000) (disch := first | exact tt_rfl rfl | omega | (simp only [go_sem] <;> omega) | fail) only [go_sem, n1, n2, h1, h2] <;> try with_reducible rfl) | apply Wp.block | apply Wp.exitS | apply Wp.retS | apply Wp.exit | apply Wp.ret | apply Wp.skip)
  ·rw [decide_eq_true h1, decide_eq_false h2]
   refine lim_by (fn := a33) (k := 2) (res := [.tmp 4]) rfl rfl rfl (by simp -implicitDefEqProofs (maxSteps := 2000000) (disch := first | exact tt_rfl rfl | omega | (simp only [go_sem] <;> omega) | fail) only [go_sem]) ?_
   try delta mvA
   try delta opA
   try delta tA
   simp -implicitDefEqProofs (maxSteps := 2000000) (disch := first | exact tt_rfl rfl | omega | (simp only [go_sem] <;> omega) | fail) only [go_sem]
   repeat (first | apply Wp.seqA | apply Wp.skipS | apply Wp.blockS | ((first | apply Wp.regS | apply Wp.condV | apply Wp.reg | apply Wp.condW | apply fin_ret); simp -implicitDefEqProofs (maxSteps := 2000000) (disch := first | exact tt_rfl rfl | omega | (simp only [go_sem] <;> omega) | fail) only [go_sem, n1, n2, h1, show ¬ (a.rows.length : Int) = (b.rows.length : Int) by omega] <;> try with_reducible rfl) | apply Wp.block | apply Wp.exitS | apply Wp.retS | apply Wp.exit | apply Wp.ret | apply Wp.skip)
 ·rw [decide_eq_false h1]
  refine lim_by (fn := a33) (k := 2) (res := [.tmp 4]) rfl rfl rfl (by simp -implicitDefEqProofs (maxSteps := 2000000) (disch := first | exact tt_rfl rfl | omega | (simp only [go_sem] <;> omega) | fail) only [go_sem]) ?_
  try delta mvA
  try delta opA
  try delta tA
  simp -implicitDefEqProofs (maxSteps := 2000000) (disch := first | exact tt_rfl rfl | omega | (simp only [go_sem] <;> omega) | fail) only [go_sem]
  repeat (first | apply Wp.seqA | apply Wp.skipS | apply Wp.blockS | ((first | apply Wp.regS | apply Wp.condV | apply Wp.reg | apply Wp.condW | apply fin_ret); simp -implicitDefEqProofs (maxSteps := 2000000) (disch := first | exact tt_rfl rfl | omega | (simp only [go_sem] <;> omega) | fail) only [go_sem, n1, n2, h1] <;> try with_reducible rfl) | apply Wp.block | apply Wp.exitS | apply Wp.retS | apply Wp.exit | apply Wp.ret | apply Wp.skip)
theorem Lay_bad (g f m : DesA) (hg : g.rows.length ≤ 1000) (hf : f.rows.length ≤ 1000) (hm : m.rows.length ≤ 1000) (he : layE g f m ≠ 0) : lim F 8 [g.av, f.av, m.av] = some (.tuple [.agg [iv 0, .own 1 []], iv (layE g f m)], []) := by
 have hc := checkL_ok [g, f, m] (by simp) (fun d hd => by
  simp at hd;rcases hd with rfl | rfl | rfl
  ·exact hg
  ·exact hf
  ·exact hm)
 change lim F _ [.list 2 [g.av, f.av, m.av]] = _ at hc;have hi := isLike_any f m;unfold layE at *;unfold DesA.av at *;generalize firstE [g, f, m] = e at *;by_cases h1 : e = 0
 ·subst h1
  rw [if_neg (by simp)] at he ⊢
  cases hl : likeT f m with
  | true => rw [hl] at he; simp at he
  | false =>
   rw [hl] at hi;rw [if_neg (by simp)]
   generalize g.rows.map (fun n => iv n) = ra at *
   generalize f.rows.map (fun n => iv n) = rb at *
   generalize m.rows.map (fun n => iv n) = rc at *
   refine lim_by (fn := a8) (k := 3) (res := [.cell 6 2 true, .tmp 7]) rfl rfl rfl (by simp -implicitDefEqProofs (maxSteps := 2000000) (disch := first | exact tt_rfl rfl | omega | (simp only [go_sem] <;> omega) | fail) only [go_sem]) ?_
   try delta mvA
   try delta opA
   try delta tA
   simp -implicitDefEqProofs (maxSteps := 2000000) (disch := first | exact tt_rfl rfl | omega | (simp only [go_sem] <;> omega) | fail) only [go_sem]
   repeat (first | apply Wp.seqA | apply Wp.skipS | apply Wp.blockS | ((first | apply Wp.regS | apply Wp.condV | apply Wp.reg | apply Wp.condW | apply fin_ret); simp -implicitDefEqProofs (maxSteps := 2000000) (disch := first | exact tt_rfl rfl | omega | (simp only [go_sem] <;> omega) | fail) only [go_sem, hc, hi] <;> try with_reducible rfl) | apply Wp.block | apply Wp.exitS | apply Wp.retS | apply Wp.exit | apply Wp.ret | apply Wp.skip)
 ·rw [if_pos h1]
  generalize g.rows.map (fun n => iv n) = ra at *
  generalize f.rows.map (fun n => iv n) = rb at *
  generalize m.rows.map (fun n => iv n) = rc at *
  refine lim_by (fn := a8) (k := 3) (res := [.cell 6 2 true, .tmp 7]) rfl rfl rfl (by simp -implicitDefEqProofs (maxSteps := 2000000) (disch := first | exact tt_rfl rfl | omega | (simp only [go_sem] <;> omega) | fail) only [go_sem]) ?_
  try delta mvA
  try delta opA
  try delta tA
  simp -implicitDefEqProofs (maxSteps := 2000000) (disch := first | exact tt_rfl rfl | omega | (simp only [go_sem] <;> omega) | fail) only [go_sem]
  repeat (first | apply Wp.seqA | apply Wp.skipS | apply Wp.blockS | ((first | apply Wp.regS | apply Wp.condV | apply Wp.reg | apply Wp.condW | apply fin_ret); simp -implicitDefEqProofs (maxSteps := 2000000) (disch := first | exact tt_rfl rfl | omega | (simp only [go_sem] <;> omega) | fail) only [go_sem, hc, h1] <;> try with_reducible rfl) | apply Wp.block | apply Wp.exitS | apply Wp.retS | apply Wp.exit | apply Wp.ret | apply Wp.skip)
theorem Differ_bad (f m : DesA) (hf : f.rows.length ≤ 1000) (hm : m.rows.length ≤ 1000) (he : difE f m ≠ 0) : lim F 9 [f.av, m.av] = some (.tuple [iv 0, iv 0, iv 0, iv (difE f m)], []) := by
 have hc := checkL_ok [f, m] (by simp) (fun d hd => by
  simp at hd;rcases hd with rfl | rfl
  ·exact hf
  ·exact hm)
 change lim F _ [.list 2 [f.av, m.av]] = _ at hc;have hi := isLike_any f m;unfold difE at *;unfold DesA.av at *;generalize firstE [f, m] = e at *;by_cases h1 : e = 0
 ·subst h1
  rw [if_neg (by simp)] at he ⊢
  cases hl : likeT f m with
  | true => rw [hl] at he; simp at he
  | false =>
   rw [hl] at hi;rw [if_neg (by simp)]
   generalize f.rows.map (fun n => iv n) = rb at *
   generalize m.rows.map (fun n => iv n) = rc at *
   refine lim_by (fn := a9) (k := 2) (res := [.tmp 4, .tmp 5, .tmp 6, .tmp 7]) rfl rfl rfl (by simp -implicitDefEqProofs (maxSteps := 2000000) (disch := first | exact tt_rfl rfl | omega | (simp only [go_sem] <;> omega) | fail) only [go_sem]) ?_
   try delta mvA
   try delta opA
   try delta tA
   simp -implicitDefEqProofs (maxSteps := 2000000) (disch := first | exact tt_rfl rfl | omega | (simp only [go_sem] <;> omega) | fail) only [go_sem]
   repeat (first | apply Wp.seqA | apply Wp.skipS | apply Wp.blockS | ((first | apply Wp.regS | apply Wp.condV | apply Wp.reg | apply Wp.condW | apply fin_ret); simp -implicitDefEqProofs (maxSteps := 2000000) (disch := first | exact tt_rfl rfl | omega | (simp only [go_sem] <;> omega) | fail) only [go_sem, hc, hi] <;> try with_reducible rfl) | apply Wp.block | apply Wp.exitS | apply Wp.retS | apply Wp.exit | apply Wp.ret | apply Wp.skip)
 ·rw [if_pos h1]
  generalize f.rows.map (fun n => iv n) = rb at *
  generalize m.rows.map (fun n => iv n) = rc at *
  refine lim_by (fn := a9) (k := 2) (res := [.tmp 4, .tmp 5, .tmp 6, .tmp 7]) rfl rfl rfl (by simp -implicitDefEqProofs (maxSteps := 2000000) (disch := first | exact tt_rfl rfl | omega | (simp only [go_sem] <;> omega) | fail) only [go_sem]) ?_
  try delta mvA
  try delta opA
  try delta tA
  simp -implicitDefEqProofs (maxSteps := 2000000) (disch := first | exact tt_rfl rfl | omega | (simp only [go_sem] <;> omega) | fail) only [go_sem]
  repeat (first | apply Wp.seqA | apply Wp.skipS | apply Wp.blockS | ((first | apply Wp.regS | apply Wp.condV | apply Wp.reg | apply Wp.condW | apply fin_ret); simp -implicitDefEqProofs (maxSteps := 2000000) (disch := first | exact tt_rfl rfl | omega | (simp only [go_sem] <;> omega) | fail) only [go_sem, hc, h1] <;> try with_reducible rfl) | apply Wp.block | apply Wp.exitS | apply Wp.retS | apply Wp.exit | apply Wp.ret | apply Wp.skip)
end Go.Abs
set_option linter.all false
namespace Go.Abs
set_option maxRecDepth 10000
set_option maxHeartbeats 4000000
def layV (g f m : DesN) (q c : Nat) : Bool := if ptB m q c then ptB f q c else ptB g (q % g.rows.length) (c % g.hk)
theorem layV_rows (g f m : DesN) (h1 : f.hk = m.hk) (h2 : f.rows.length = m.rows.length) : (List.range m.rows.length).map (fun q => rowTo (layV g f m q) m.hk) = (layN g f m).rows := by
 unfold layN madeN;refine List.map_congr_left fun q hq => rowTo_congr fun c hc => ?_
 have hq := List.mem_range.1 hq;show layV g f m q c = if atN m q c then atN f q c else atN g q c
 unfold layV atN ptB;rw [h1, h2, Nat.mod_eq_of_lt hq, Nat.mod_eq_of_lt hc]
theorem refLay_ok (g f m : DesN) (hg : g.Ok) (hf : f.Ok) (hm : m.Ok) (h1 : f.hk = m.hk) (h2 : f.rows.length = m.rows.length) : lim F 13 [desV g, desV f, desV m] = some (.agg [iv (m.hk : Int), .own 1 (natsV (layN g f m).rows)], []) := by
 have h24 := hm.h24;have h60 := hm.r60;have k1 := hm.h1;have n1 := hm.r1;have g24 := hg.h24;have g60 := hg.r60;have gk1 := hg.h1;have gn1 := hg.r1;have tg := Table_ok g hg;have tf := Table_ok f hf;have tm := Table_ok m hm;rw [tabN_F] at tg tf tm;change lim F _ [desV g] = _ at tg;change lim F _ [desV f] = _ at tf;change lim F _ [desV m] = _ at tm;rw [h1, h2] at tf;have hD := Design_ok (tabF (layV g f m) m.rows.length m.hk) m.hk (by simp; omega) (by simp; omega) (fun l hl => by
  obtain ⟨q, _, rfl⟩ := List.mem_map.1 hl;simp) h24
 rw [design_F, layV_rows g f m h1 h2] at hD;have hDl : (natsV (layN g f m).rows).length = m.rows.length := by simp [layN, madeN]
 have hDp : (natsV (layN g f m).rows).all AV.plain = true := nat_plain (layN g f m).rows;have hDt : (natsV (layN g f m).rows).take m.rows.length = natsV (layN g f m).rows := List.take_of_length_le (by omega)
 have hfe := tabW_fe (tabF (layV g f m) m.rows.length m.hk);have hgn : (natsV g.rows).length = g.rows.length := by simp
 have hfn : (natsV f.rows).length = m.rows.length := by simp [h2]
 have hmn : (natsV m.rows).length = m.rows.length := by simp
 have lG : (tabW (tabF (ptB g) g.rows.length g.hk)).length = g.rows.length := by simp
 have lF : (tabW (tabF (ptB f) m.rows.length m.hk)).length = m.rows.length := by simp
 have lE : ∀ i h, (tabW (tabF (stF (layV g f m) (ptB m) i h) m.rows.length m.hk)).length = m.rows.length := fun i h => by simp
 have lM : (tabW (tabF (ptB m) m.rows.length m.hk)).length = m.rows.length := by simp
 have e0 := stF_zero (layV g f m) (ptB m) m.rows.length m.hk;have eN := stF_next (layV g f m) (ptB m) m.rows.length m.hk;have eE := stF_end (layV g f m) (ptB m) m.rows.length m.hk;generalize natsV (layN g f m).rows = DR at *;unfold desV at *;generalize natsV g.rows = rg at *;generalize natsV f.rows = rf at *;generalize natsV m.rows = rm at *;refine lim_by (fn := a13) (k := 3) (res := [.cell 6 2 true]) rfl rfl rfl (by simp -implicitDefEqProofs (maxSteps := 2000000) (disch := first | exact tt_rfl rfl | omega | (simp only [go_sem] <;> omega) | fail) only [go_sem]) ?_
 try delta mvA
 try delta opA
 try delta tA
 simp -implicitDefEqProofs (maxSteps := 2000000) (disch := first | exact tt_rfl rfl | omega | (simp only [go_sem] <;> omega) | fail) only [go_sem]
 repeat (first | apply Wp.seqA | apply Wp.skipS | apply Wp.blockS | ((first | apply Wp.regS | apply Wp.condV | apply Wp.reg | apply Wp.condW | apply fin_ret); simp -implicitDefEqProofs (maxSteps := 2000000) (disch := first | exact tt_rfl rfl | omega | (simp only [go_sem] <;> omega) | fail) only [go_sem, tg, tf, tm, lG, lF, lM, hgn, hfn, hmn] <;> try with_reducible rfl) | apply Wp.block | apply Wp.exitS | apply Wp.retS | apply Wp.exit | apply Wp.ret | apply Wp.skip)
 apply Wp.loopF m.rows.length (fun i => ⟨[(6, .ptr 384 0 0), (7, .tabS 448 g.rows.length), (8, .tabS 512 m.rows.length), (9, .tabS 576 m.rows.length), (10, iv (i : Int))], [(384, .box [iv 0, .slice 306145 0 0]), (448, .tab 1 (tabW (tabF (ptB g) g.rows.length g.hk))), (512, .tab 1 (tabW (tabF (ptB f) m.rows.length m.hk))), (576, .tab 1 (tabW (tabF (stF (layV g f m) (ptB m) i 0) m.rows.length m.hk))), (306145, .arr 1 [])], [], 10000000⟩) (fun _ => True)
 ·simp -implicitDefEqProofs (maxSteps := 2000000) (disch := first | exact tt_rfl rfl | omega | (simp only [go_sem] <;> omega) | fail) only [go_sem, norm_eq, Ok.some]
  rw [e0];rfl
 ·trivial
 intro i hi _;by_cases hin : i < m.rows.length
 ·rw [← eN i]
  repeat (first | apply Wp.seqA | apply Wp.skipS | apply Wp.blockS | ((first | apply Wp.regS | apply Wp.condV | apply Wp.reg | apply Wp.condW | apply fin_ret); simp -implicitDefEqProofs (maxSteps := 2000000) (disch := first | exact tt_rfl rfl | omega | (simp only [go_sem] <;> omega) | fail) only [go_sem, hin, Int.ofNat_lt, lE] <;> try with_reducible rfl) | apply Wp.block | apply Wp.exitS | apply Wp.retS | apply Wp.exit | apply Wp.ret | apply Wp.skip)
  apply Wp.loopF m.hk (fun h => ⟨[(6, .ptr 384 0 0), (7, .tabS 448 g.rows.length), (8, .tabS 512 m.rows.length), (9, .tabS 576 m.rows.length), (10, iv (i : Int)), (11, iv (h : Int))], [(384, .box [iv 0, .slice 306145 0 0]), (448, .tab 1 (tabW (tabF (ptB g) g.rows.length g.hk))), (512, .tab 1 (tabW (tabF (ptB f) m.rows.length m.hk))), (576, .tab 1 (tabW (tabF (stF (layV g f m) (ptB m) i h) m.rows.length m.hk))), (306145, .arr 1 [])], [], 10000000⟩) (fun _ => True)
  ·simp -implicitDefEqProofs (maxSteps := 2000000) (disch := first | exact tt_rfl rfl | omega | (simp only [go_sem] <;> omega) | fail) only [go_sem, norm_eq, Ok.some]
   rfl
  ·trivial
  intro h hh _;have a1 := tabW_at (F := stF (layV g f m) (ptB m) i h) (k := m.hk) hin;have a2 := tabW_cell (F := stF (layV g f m) (ptB m) i h) (k := m.hk) hin;have a3 := bV_len (stF (layV g f m) (ptB m) i h i) m.hk;have lEi := lE i h;by_cases hhk : h < m.hk
  ·have a4 := bV_at (f := stF (layV g f m) (ptB m) i h i) hhk
   have a5 : stF (layV g f m) (ptB m) i h i h = ptB m i h := by
    unfold stF;rw [if_neg (by omega)]
   rw [a5] at a4;have a6 := fun x => tabSet_W x (tabF (stF (layV g f m) (ptB m) i h) m.rows.length m.hk) i
   have a7 := stF_set (layV g f m) (ptB m) (k := m.hk) (h := h) hin;have b1 := tabW_at (F := ptB f) (k := m.hk) hin;have b2 := tabW_cell (F := ptB f) (k := m.hk) hin;have b3 := bV_len (ptB f i) m.hk;have b4 := bV_at (f := ptB f i) hhk;have hig : i % g.rows.length < g.rows.length := Nat.mod_lt _ (by omega)
   have hhg : h % g.hk < g.hk := Nat.mod_lt _ (by omega)
   have c1 := tabW_at (F := ptB g) (k := g.hk) hig;have c2 := tabW_cell (F := ptB g) (k := g.hk) hig;have c3 := bV_len (ptB g (i % g.rows.length)) g.hk;have c4 := bV_at (f := ptB g (i % g.rows.length)) hhg;have d1 := tabW_at (F := ptB g) (k := g.hk) (show 0 < g.rows.length by omega)
   have d2 := tabW_cell (F := ptB g) (k := g.hk) (show 0 < g.rows.length by omega)
   have d3 := bV_len (ptB g 0) g.hk;have m1 : Int.tmod (i : Int) (g.rows.length : Int) = ((i % g.rows.length : Nat) : Int) := rfl;have m2 : Int.tmod (h : Int) (g.hk : Int) = ((h % g.hk : Nat) : Int) := rfl;by_cases hp : ptB m i h = true
   ·have hV : layV g f m i h = ptB f i h := by unfold layV; rw [if_pos hp]
    rw [hV] at a7;rw [hp] at a4;rw [← a7];repeat (first | apply Wp.seqA | apply Wp.skipS | apply Wp.blockS | ((first | apply Wp.regS | apply Wp.condV | apply Wp.reg | apply Wp.condW | apply fin_ret); simp -implicitDefEqProofs (maxSteps := 2000000) (disch := first | exact tt_rfl rfl | omega | (simp only [go_sem] <;> omega) | fail) only [go_sem, hin, hhk, Int.ofNat_lt, lG, lF, lEi, a1, a2, a3, a4, a6, b1, b2, b3, b4, Nat.mul_one, Nat.add_zero, Nat.zero_add] <;> try with_reducible rfl) | apply Wp.block | apply Wp.exitS | apply Wp.retS | apply Wp.exit | apply Wp.ret | apply Wp.skip)
    apply round_next
    ·simp -implicitDefEqProofs (maxSteps := 2000000) (disch := first | exact tt_rfl rfl | omega | (simp only [go_sem] <;> omega) | fail) only [go_sem, norm_eq, Ok.some]; with_reducible rfl
    exact ⟨hhk, by simp, trivial⟩
   ·have hp' : ptB m i h = false := by simpa using hp
    have hV : layV g f m i h = ptB g (i % g.rows.length) (h % g.hk) := by unfold layV; rw [if_neg hp]
    rw [hV] at a7;rw [hp'] at a4;rw [← a7];repeat (first | apply Wp.seqA | apply Wp.skipS | apply Wp.blockS | ((first | apply Wp.regS | apply Wp.condV | apply Wp.reg | apply Wp.condW | apply fin_ret); simp -implicitDefEqProofs (maxSteps := 2000000) (disch := first | exact tt_rfl rfl | omega | (simp only [go_sem] <;> omega) | fail) only [go_sem, hin, hhk, Int.ofNat_lt, lG, lF, lEi, a1, a2, a3, a4, a6, c1, c2, c3, c4, d1, d2, d3, m1, m2, Nat.mul_one, Nat.add_zero, Nat.zero_add] <;> try with_reducible rfl) | apply Wp.block | apply Wp.exitS | apply Wp.retS | apply Wp.exit | apply Wp.ret | apply Wp.skip)
    apply round_next
    ·simp -implicitDefEqProofs (maxSteps := 2000000) (disch := first | exact tt_rfl rfl | omega | (simp only [go_sem] <;> omega) | fail) only [go_sem, norm_eq, Ok.some]; with_reducible rfl
    exact ⟨hhk, by simp, trivial⟩
  ·obtain rfl : h = m.hk := by omega
   repeat (first | apply Wp.seqA | apply Wp.skipS | apply Wp.blockS | ((first | apply Wp.regS | apply Wp.condV | apply Wp.reg | apply Wp.condW | apply fin_ret); simp -implicitDefEqProofs (maxSteps := 2000000) (disch := first | exact tt_rfl rfl | omega | (simp only [go_sem] <;> omega) | fail) only [go_sem, hin, Int.ofNat_lt, Int.lt_irrefl, lEi, a1, a2, a3, Nat.mul_one, Nat.add_zero] <;> try with_reducible rfl) | apply Wp.block | apply Wp.exitS | apply Wp.retS | apply Wp.exit | apply Wp.ret | apply Wp.skip)
   apply round_next
   ·simp -implicitDefEqProofs (maxSteps := 2000000) (disch := first | exact tt_rfl rfl | omega | (simp only [go_sem] <;> omega) | fail) only [go_sem, norm_eq, Ok.some]; with_reducible rfl
   exact ⟨hin, by simp, trivial⟩
 ·obtain rfl : i = m.rows.length := by omega
  have lEE := lE m.rows.length 0;rw [eE] at lEE ⊢;repeat (first | apply Wp.seqA | apply Wp.skipS | apply Wp.blockS | ((first | apply Wp.regS | apply Wp.condV | apply Wp.reg | apply Wp.condW | apply fin_ret); simp -implicitDefEqProofs (maxSteps := 2000000) (disch := first | exact tt_rfl rfl | omega | (simp only [go_sem] <;> omega) | fail) only [go_sem, Int.lt_irrefl, lEE, hfe, hD, hDl, hDp, hDt] <;> try with_reducible rfl) | apply Wp.block | apply Wp.exitS | apply Wp.retS | apply Wp.exit | apply Wp.ret | apply Wp.skip)
end Go.Abs
