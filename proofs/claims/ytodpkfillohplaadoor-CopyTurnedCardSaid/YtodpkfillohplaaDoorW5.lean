/-
 Chapter 12: sets turned. No condition beyond those that each theorem names.
-/
import Derived.Test.YtodpkfillohplaaDoorW4
set_option linter.all false
namespace Go.Abs
set_option maxRecDepth 10000
set_option maxHeartbeats 8000000
theorem tabSet_two {c : AV} : ∀ {es : List AV} {i : Nat} {h r : AV}, (∀ e ∈ es, e.cells.length = 2) → es[i]? = some (.agg [h, r]) → tabSet (i * 2 + 1) c es = es.set i (.agg [h, c])
 | [], i, h, r, _, he => by simp at he
 | e :: es, 0, h, r, hc, he => by
  simp at he; subst he
  simp [tabSet, AV.cells, tabSet1]
 | e :: es, i + 1, h, r, hc, he => by
  have h2 := hc e (List.mem_cons_self ..);have ih := tabSet_two (c := c) (es := es) (i := i) (fun e he => hc e (List.mem_cons_of_mem _ he)) (by simpa using he)
  rw [tabSet, if_neg (by rw [h2]; omega), h2, show (i + 1) * 2 + 1 - 2 = i * 2 + 1 by omega, ih]
  rfl
theorem cell_two : ∀ {es : List AV} {i : Nat} {h r : AV}, (∀ e ∈ es, e.cells.length = 2) → es[i]? = some (.agg [h, r]) → (es.flatMap AV.cells)[i * 2 + 1]? = some r
 | [], i, h, r, _, he => by simp at he
 | e :: es, 0, h, r, hc, he => by
  simp at he; subst he
  simp [AV.cells]
 | e :: es, i + 1, h, r, hc, he => by
  have h2 := hc e (List.mem_cons_self ..);have ih := cell_two (es := es) (i := i) (fun e he => hc e (List.mem_cons_of_mem _ he)) (by simpa using he)
  rw [List.flatMap_cons, List.getElem?_append_right (by omega), h2, show (i + 1) * 2 + 1 - 2 = i * 2 + 1 by omega, ih]
def tvN (d : DesN) : AV := .agg [iv (d.hk : Int), .own 1 (natsV d.rows)]
def turnD (d : DesN) (k : Nat) : AV := .agg [iv (d.hk : Int), .own 1 (turnTo true d.hk d.rows k)]
def turnA (d : DesN) : DesN := ⟨d.hk, turnL true d.hk d.rows⟩
def turnE (l : List DesN) (i k : Nat) : List AV := (l.take i).map (fun d => tvN (turnA d)) ++ ((l[i]?.map fun d => turnD d k).toList ++ (l.drop (i + 1)).map tvN)
theorem turnE_at {l : List DesN} {i k : Nat} (h : i < l.length) : (turnE l i k)[i]? = some (turnD l[i] k) := by
 have e : ((l.take i).map fun d => tvN (turnA d)).length = i := by simp; omega
 unfold turnE;rw [List.getElem?_append_right (by omega), e, List.getElem?_eq_getElem h, Nat.sub_self]
 rfl
theorem turnE_len {l : List DesN} {i k : Nat} (h : i ≤ l.length) : (turnE l i k).length = l.length := by
 unfold turnE;by_cases hi : i < l.length
 ·rw [List.getElem?_eq_getElem hi]; simp; omega
 ·rw [List.getElem?_eq_none (by omega)]; simp; omega
theorem turnE_two {l : List DesN} {i k : Nat} : ∀ e ∈ turnE l i k, e.cells.length = 2 := by
 intro e he;unfold turnE at he;rcases List.mem_append.1 he with he | he
 ·obtain ⟨d, _, rfl⟩ := List.mem_map.1 he; rfl
 ·rcases List.mem_append.1 he with he | he
  ·cases hq : l[i]? with
   | none => rw [hq] at he; cases he
   | some d => rw [hq] at he; simp at he; subst he; rfl
  ·obtain ⟨d, _, rfl⟩ := List.mem_map.1 he; rfl
theorem turnE_set {l : List DesN} {i k : Nat} (h : i < l.length) : (turnE l i k).set i (turnD l[i] (k + 1)) = turnE l i (k + 1) := by
 have e : ((l.take i).map fun d => tvN (turnA d)).length = i := by simp; omega
 unfold turnE;rw [List.set_append, if_neg (by omega), e, Nat.sub_self, List.getElem?_eq_getElem h]
 rfl
theorem turnE_next {l : List DesN} {i : Nat} (h : i < l.length) : turnE l i l[i].rows.length = turnE l (i + 1) 0 := by
 unfold turnE;rw [List.getElem?_eq_getElem h, List.take_succ, List.getElem?_eq_getElem h, List.map_append, List.append_assoc]
 congr 1
 have e1 : turnD l[i] l[i].rows.length = tvN (turnA l[i]) := by
  unfold turnD tvN turnA;rw [turnTo_end]
 simp only [Option.map_some, Option.toList_some, List.map_cons, List.map_nil, e1]
 congr 1
 by_cases h2 : i + 1 < l.length
 ·rw [List.getElem?_eq_getElem h2, List.drop_eq_getElem_cons h2]
  have e2 : turnD l[i + 1] 0 = tvN l[i + 1] := by
   unfold turnD tvN;rw [turnTo_zero]
  simp only [Option.map_some, Option.toList_some, List.map_cons, e2, List.cons_append, List.nil_append]
 ·rw [List.getElem?_eq_none (by omega), List.drop_eq_nil_of_le (by omega), List.drop_eq_nil_of_le (by omega)]
  rfl
theorem turnE_zero (l : List DesN) : turnE l 0 0 = l.map tvN := by
 cases l with
 | nil => rfl
 | cons d l =>
  have e2 : turnD d 0 = tvN d := by
   unfold turnD tvN;rw [turnTo_zero]
  simp [turnE, e2]
theorem turnE_end (l : List DesN) : turnE l l.length 0 = l.map fun d => tvN (turnA d) := by
 unfold turnE;rw [List.take_length, List.getElem?_eq_none (Nat.le_refl _), List.drop_eq_nil_of_le (by omega)]
 simp
theorem ownN_ok (l : List DesN) (hl : l.length ≤ 1000) (hr : ∀ d ∈ l, d.rows.length ≤ 1000) : lim F 15 [.list 2 (l.map setV)] = some (.ownT 2 (l.map tvN), []) := by
 have := own_ok (l.map DesN.a) (by simpa using hl) (fun d hd => by
  obtain ⟨e, he, rfl⟩ := List.mem_map.1 hd;simpa [DesN.a] using hr e he)
 rw [List.map_map, List.map_map] at this;have e1 : (DesA.av ∘ DesN.a) = setV := funext fun d => setV_av d
 have e2 : (DesA.tv ∘ DesN.a) = tvN := funext fun d => by
  simp [DesN.a, DesA.tv, tvN, natsV, List.map_map, Function.comp_def]
 rw [e1, e2] at this;exact this
theorem turned_ok (l : List DesN) (ho : ∀ d ∈ l, d.Ok) (hl : l.length ≤ 100) : lim F 55 [.list 2 (l.map setV)] = some (.ownT 2 (l.map fun d => tvN (turnA d)), []) := by
 have hO := ownN_ok l (by omega) (fun d hd => by have := (ho d hd).r60; omega)
 have hlT : (l.map tvN).length = l.length := by simp
 refine lim_by (fn := a55) (k := 1) (res := [.tmp 2]) rfl rfl rfl (by simp -implicitDefEqProofs (maxSteps := 2000000) (disch := first | exact tt_rfl rfl | omega | (simp only [go_sem] <;> omega) | fail) only [go_sem]) ?_
 try delta mvA
 try delta opA
 try delta tA
 simp -implicitDefEqProofs (maxSteps := 2000000) (disch := first | exact tt_rfl rfl | omega | (simp only [go_sem] <;> omega) | fail) only [go_sem]
 repeat (first | apply Wp.seqA | apply Wp.skipS | apply Wp.blockS | ((first | apply Wp.regS | apply Wp.condV | apply Wp.reg | apply Wp.condW | apply fin_ret); simp -implicitDefEqProofs (maxSteps := 2000000) (disch := first | exact tt_rfl rfl | omega | (simp only [go_sem] <;> omega) | fail) only [go_sem, hO, hlT] <;> try with_reducible rfl) | apply Wp.block | apply Wp.exitS | apply Wp.retS | apply Wp.exit | apply Wp.ret | apply Wp.skip)
 apply Wp.loopF l.length (fun i => ⟨[(3, .tabS 192 l.length), (4, iv (i : Int))], [(192, .tab 2 (turnE l i 0))], [], 10000000⟩) (fun _ => True)
 ·simp -implicitDefEqProofs (maxSteps := 2000000) (disch := first | exact tt_rfl rfl | omega | (simp only [go_sem] <;> omega) | fail) only [go_sem, norm_eq, Ok.some]
  rw [turnE_zero];rfl
 ·trivial
 intro i hi _;by_cases h : i < l.length
 ·have hd := ho l[i] (List.getElem_mem h)
  have h1 := hd.h1;have h24 := hd.h24;have r1 := hd.r1;have r60 := hd.r60;rw [← turnE_next h];have u1 : IntKind.wrap .u64 (l[i].hk : Int) = l[i].hk := wrap_u64 (by omega) (by omega)
  have s1 := w_shl1 l[i].hk (by omega)
  have p24 : 2 ^ l[i].hk ≤ 2 ^ 24 := Nat.pow_le_pow_right (by omega) h24
  have p0 : 0 < 2 ^ l[i].hk := Nat.pow_pos (by omega)
  have hEl := fun k => turnE_len (l := l) (i := i) (k := k) hi
  have hEat := fun k => turnE_at (l := l) (i := i) (k := k) h
  have hcell : ∀ k, ((turnE l i k).flatMap AV.cells)[i * 2 + 1]? = some (.own 1 (turnTo true l[i].hk l[i].rows k)) := fun k => cell_two turnE_two (hEat k)
  have hset : ∀ k c, tabSet (i * 2 + 1) c (turnE l i k) = (turnE l i k).set i (.agg [iv (l[i].hk : Int), c]) := fun k c => tabSet_two turnE_two (hEat k)
  have hnx : ∀ k, (turnE l i k).set i (.agg [iv (l[i].hk : Int), .own 1 (turnTo true l[i].hk l[i].rows (k + 1))]) = turnE l i (k + 1) := fun k => turnE_set h
  have hTl := turnTo_len true l[i].hk l[i].rows;have hTa := fun k (hk : k < l[i].rows.length) => turnTo_at (t := true) (hk := l[i].hk) hk
  have hTs := fun k (hk : k < l[i].rows.length) => turnTo_set (t := true) (hk := l[i].hk) hk
  have hR : ∀ k, k < l[i].rows.length → l[i].rows.getD k 0 < 2 ^ 24 := fun k hk => hd.at24 hk
  unfold turnD at hEat;repeat (first | apply Wp.seqA | apply Wp.skipS | apply Wp.blockS | ((first | apply Wp.regS | apply Wp.condV | apply Wp.reg | apply Wp.condW | apply fin_ret); simp -implicitDefEqProofs (maxSteps := 2000000) (disch := first | exact tt_rfl rfl | omega | (simp only [go_sem] <;> omega) | fail) only [go_sem, h, Int.ofNat_lt] <;> try with_reducible rfl) | apply Wp.block | apply Wp.exitS | apply Wp.retS | apply Wp.exit | apply Wp.ret | apply Wp.skip)
  apply Wp.loopF l[i].rows.length (fun k => ⟨[(3, .tabS 192 l.length), (4, iv (i : Int)), (5, iv (k : Int))], [(192, .tab 2 (turnE l i k))], [], 10000000⟩) (fun _ => True)
  ·simp -implicitDefEqProofs (maxSteps := 2000000) (disch := first | exact tt_rfl rfl | omega | (simp only [go_sem] <;> omega) | fail) only [go_sem, norm_eq, Ok.some]
   rfl
  ·trivial
  intro k hk _;have a1 := hEat k;have a2 := hcell k;have a3 := hTl k;by_cases hk' : k < l[i].rows.length
  ·have a4 := hTa k hk'
   have a5 := hTs k hk';have a6 := hset k;have a7 := hnx k;have a8 := hR k hk';have w1 := w_xor (l[i].rows.getD k 0) (2 ^ l[i].hk - 1) (by omega) (by omega)
   have e1 : turnR true l[i].hk (l[i].rows.getD k 0) = l[i].rows.getD k 0 ^^^ (2 ^ l[i].hk - 1) := by unfold turnR; rw [if_pos rfl]
   rw [e1] at a5;rw [← a5] at a7;rw [← a7];have em : ((2 ^ l[i].hk : Nat) : Int) - 1 = ((2 ^ l[i].hk - 1 : Nat) : Int) := by omega
   clear hcell hset hnx hEat hTa hTs hR a5 a7;generalize turnE l i k = E at *;generalize turnTo true l[i].hk l[i].rows k = L at *;generalize l[i].rows.getD k 0 ^^^ (2 ^ l[i].hk - 1) = y at *;generalize l[i].rows.getD k 0 = r at *;generalize 2 ^ l[i].hk - 1 = al at *;repeat (first | apply Wp.seqA | apply Wp.skipS | apply Wp.blockS | ((first | apply Wp.regS | apply Wp.condV | apply Wp.reg | apply Wp.condW | apply fin_ret); simp -implicitDefEqProofs (maxSteps := 2000000) (disch := first | exact tt_rfl rfl | omega | (simp only [go_sem] <;> omega) | fail) only [go_sem, h, hk', Int.ofNat_lt, a1, a2, a3, a4, a6, u1, s1, em, w1, Int.toNat_natCast, Nat.zero_add] <;> try with_reducible rfl) | apply Wp.block | apply Wp.exitS | apply Wp.retS | apply Wp.exit | apply Wp.ret | apply Wp.skip)
   apply round_next
   ·simp -implicitDefEqProofs (maxSteps := 2000000) (disch := first | exact tt_rfl rfl | omega | (simp only [go_sem] <;> omega) | fail) only [go_sem, norm_eq, Ok.some]; with_reducible rfl
   exact ⟨hk', by simp, trivial⟩
  ·obtain rfl : k = l[i].rows.length := by omega
   clear hcell hset hnx hEat hTa hTs hR;generalize turnE l i l[i].rows.length = E at *;repeat (first | apply Wp.seqA | apply Wp.skipS | apply Wp.blockS | ((first | apply Wp.regS | apply Wp.condV | apply Wp.reg | apply Wp.condW | apply fin_ret); simp -implicitDefEqProofs (maxSteps := 2000000) (disch := first | exact tt_rfl rfl | omega | (simp only [go_sem] <;> omega) | fail) only [go_sem, h, Int.ofNat_lt, Int.lt_irrefl, a1, a2, a3] <;> try with_reducible rfl) | apply Wp.block | apply Wp.exitS | apply Wp.retS | apply Wp.exit | apply Wp.ret | apply Wp.skip)
   apply round_next
   ·simp -implicitDefEqProofs (maxSteps := 2000000) (disch := first | exact tt_rfl rfl | omega | (simp only [go_sem] <;> omega) | fail) only [go_sem, norm_eq, Ok.some]; with_reducible rfl
   exact ⟨h, by simp, trivial⟩
 ·obtain rfl : i = l.length := by omega
  have hEl := turnE_len (l := l) (i := l.length) (k := 0) (Nat.le_refl _);rw [turnE_end] at hEl ⊢;generalize l.map (fun d => tvN (turnA d)) = M at *
  repeat (first | apply Wp.seqA | apply Wp.skipS | apply Wp.blockS | ((first | apply Wp.regS | apply Wp.condV | apply Wp.reg | apply Wp.condW | apply fin_ret); simp -implicitDefEqProofs (maxSteps := 2000000) (disch := first | exact tt_rfl rfl | omega | (simp only [go_sem] <;> omega) | fail) only [go_sem, Int.lt_irrefl, hEl] <;> try with_reducible rfl) | apply Wp.block | apply Wp.exitS | apply Wp.retS | apply Wp.exit | apply Wp.ret | apply Wp.skip)
end Go.Abs
