/-
 Several texts: X12, X13, Y4, X14.
-/
import Derived.Test.YtodpkfillohplaaDoorX10
import Derived.Test.YtodpkfillohplaaDoorX11
set_option linter.all false
namespace Go.Abs
set_option maxRecDepth 10000
set_option maxHeartbeats 4000000
theorem Wp.rangeX {call : CallF} {fr : Fr} {Q : AEx → Fr → Prop} {f : AOpd} {ps keep : List Nat} {a b : ACode} {g : Nat} {cap vs : List AV} {ids : List Nat} {r1 r2 : AV} {k : Option Nat} {V : List (List AV)} (S : Nat → Fr → Prop) (i0 : Nat) (x0 : List AV)
  (hf : getO (fun t => lk t fr.tm) f = some (.func g cap)) (hz : frzL (frz (fun i => lk i fr.rows) frzDepth) cap = some (vs, ids))
  (h1 : call g (.ylog none [] :: vs) = some (r1, [.ylog k V])) (hv : V[i0]? = some x0) (h2 : call g (.ylog (some 1) (V.take (i0 + 1)) :: vs) = some (r2, [.ylog (some 1) []]))
  (h0 : Ok (norm keep ⟨fr.tm, updRows (gone ids) fr.rows, fr.lent, fr.next⟩) (S 0))
  (hs : ∀ i x fr, i < i0 → V[i]? = some x → S i fr → ∃ tm, setPs ps x fr.tm = some tm ∧ Wp call a ⟨tm, fr.rows, fr.lent, fr.next⟩ (bodyQ call b (roundQ keep (S (i + 1)) fun _ _ => False)))
  (hx : ∀ fr, S i0 fr → ∃ tm, setPs ps x0 fr.tm = some tm ∧ Wp call a ⟨tm, fr.rows, fr.lent, fr.next⟩ (bodyQ call b (roundQ keep (fun _ => False) fun ex fr => Q ex ⟨keepT keep fr.tm, fr.rows, fr.lent, fr.next⟩))) : Wp call (.rangeF f ps a b keep) fr Q := by
 have key : ∀ (V' : List (List AV)) (i : Nat) (fr : Fr), V.drop i = V' → i ≤ i0 → S i fr → ∃ n ex fr', ex ≠ .normal ∧ rounds (fun fr => bothE (evalCode call n a fr) (evalCode call n b)) (norm keep) keep ps i V' fr = some (i0, ex, fr') ∧ Q ex fr' := by
  intro V';induction V' with
  | nil =>
   intro i fr hd hi hS;have hl : V.length - i = 0 := by rw [← List.length_drop, hd]; rfl
   have : i0 < V.length := by
    rcases Nat.lt_or_ge i0 V.length with h | h
    ·exact h
    ·rw [List.getElem?_eq_none h] at hv; cases hv
   omega
  | cons x V' ih =>
   intro i fr hd hi hS;have hx' : V[i]? = some x := by
    have := List.getElem?_drop (xs := V) (i := i) (j := 0);rw [hd] at this;simpa using this.symm
   have hd' : V.drop (i + 1) = V' := by rw [← List.drop_drop, hd]; rfl
   by_cases he : i = i0
   ·subst he
    rw [hv] at hx';cases hx';obtain ⟨tm, ht, hw⟩ := hx fr hS;unfold Wp at hw;obtain ⟨n1, ex1, fr1, e1, q1⟩ := hw;cases ex1 with
    | exit j => exact q1.elim
    | ret => exact q1.elim
    | normal =>
     change Wp call b fr1 _ at q1;unfold Wp at q1;obtain ⟨n2, ex2, fr2, e2, q2⟩ := q1;have hn : ex2 ≠ .normal := by
      rintro rfl;obtain ⟨fr3, e3, q3⟩ := Ok.elim q2;exact q3
     refine ⟨max n1 n2, ex2, ⟨keepT keep fr2.tm, fr2.rows, fr2.lent, fr2.next⟩, hn, ?_, ?_⟩
     ·simp only [rounds, ht]
      rw [show evalCode call (max n1 n2) a ⟨tm, fr.rows, fr.lent, fr.next⟩ = some (.normal, fr1) from evalCode_mono (CallF.le_refl _) (by omega) e1]
      simp only [bothE];rw [show evalCode call (max n1 n2) b fr1 = some (ex2, fr2) from evalCode_mono (CallF.le_refl _) (by omega) e2]
      cases ex2 with
      | normal => exact (hn rfl).elim
      | exit j => rfl
      | ret => rfl
     ·cases ex2 with
      | normal => exact (hn rfl).elim
      | exit j => exact q2
      | ret => exact q2
   ·obtain ⟨tm, ht, hw⟩ := hs i x fr (by omega) hx' hS
    unfold Wp at hw;obtain ⟨n1, ex1, fr1, e1, q1⟩ := hw;cases ex1 with
    | exit j => exact q1.elim
    | ret => exact q1.elim
    | normal =>
     change Wp call b fr1 _ at q1;unfold Wp at q1;obtain ⟨n2, ex2, fr2, e2, q2⟩ := q1;cases ex2 with
     | exit j => exact q2.elim
     | ret => exact q2.elim
     | normal =>
      obtain ⟨fr3, e3, q3⟩ := Ok.elim q2;obtain ⟨n3, ex4, fr4, hne, e4, q4⟩ := ih (i + 1) fr3 hd' (by omega) q3
      refine ⟨max n1 (max n2 n3), ex4, fr4, hne, ?_, q4⟩;simp only [rounds, ht];rw [show evalCode call (max n1 (max n2 n3)) a ⟨tm, fr.rows, fr.lent, fr.next⟩ = some (.normal, fr1) from evalCode_mono (CallF.le_refl _) (by omega) e1]
      simp only [bothE];rw [show evalCode call (max n1 (max n2 n3)) b fr1 = some (.normal, fr2) from evalCode_mono (CallF.le_refl _) (by omega) e2]
      simp only [e3];exact rounds_mono (fun fr r h => bothE_mono (fun r h => evalCode_mono (CallF.le_refl _) (by omega) h) (fun fr r h => evalCode_mono (CallF.le_refl _) (by omega) h) h) e4
 obtain ⟨fr1, e0, hS0⟩ := Ok.elim h0;obtain ⟨n, ex, fr2, hne, e1, hQ⟩ := key V 0 fr1 (List.drop_zero) (Nat.zero_le _) hS0;unfold Wp;refine ⟨n, ex, fr2, ?_, hQ⟩;simp only [evalCode, hf, evRange, hz, evRangeF, List.nil_append, h1, e0, e1];cases ex with
 | normal => exact (hne rfl).elim
 | exit j => simp only [endRange, List.nil_append, h2]
 | ret => simp only [endRange, List.nil_append, h2]
def partsL (most : Nat) : Nat → Nat → List (List Nat)
 | 0, _ => [[]]
 | m + 1, a => (List.range (most - a)).flatMap fun i => (partsL most m (a + i + 1)).map fun l => (a + i) :: l
def partV (l : List Nat) : AV := .list 1 (natsV l)
@[go_sem] theorem y_cells (q : Nat) : (AV.yieldT q).cells = [.yieldT q] := by rfl
@[go_sem] theorem y_scalar (q : Nat) : AV.scalar (.yieldT q) = true := by rfl
def pV (l : List (List Nat)) : List (List AV) := l.map fun x => [partV x]
theorem pV_append (l m : List (List Nat)) : pV (l ++ m) = pV l ++ pV m := by simp [pV]
def partsIn (most m a i : Nat) : List (List Nat) := (partsL most m (a + i + 1)).map fun l => (a + i) :: l
theorem parts_ok (a most m : Nat) : lim F 66 [iv a, iv most, iv m] = some (.func 85 [.iptr (.agg [iv m]) 0, .iptr (.agg [iv a]) 0, .iptr (.agg [iv most]) 0], []) := by
 refine lim_by (fn := a66) (k := 3) (res := [.tmp 6]) rfl rfl rfl (by simp -implicitDefEqProofs (maxSteps := 2000000) (disch := first | exact tt_rfl rfl | omega | (simp only [go_sem] <;> omega) | fail) only [go_sem]) ?_
 try delta mvA
 try delta opA
 try delta tA
 simp -implicitDefEqProofs (maxSteps := 2000000) (disch := first | exact tt_rfl rfl | omega | (simp only [go_sem] <;> omega) | fail) only [go_sem]
 repeat (first | apply Wp.seqA | apply Wp.skipS | apply Wp.blockS | ((first | apply Wp.regS | apply Wp.condV | apply Wp.reg | apply Wp.condW | apply fin_ret); simp -implicitDefEqProofs (maxSteps := 2000000) (disch := first | exact tt_rfl rfl | omega | (simp only [go_sem] <;> omega) | fail) only [go_sem] <;> try with_reducible rfl) | apply Wp.block | apply Wp.exitS | apply Wp.retS | apply Wp.exit | apply Wp.ret | apply Wp.skip)
theorem natsV_cons (n : Nat) (l : List Nat) : natsV (n :: l) = iv (n : Int) :: natsV l := rfl
theorem partsL_at (most m a i : Nat) (hi : i ≤ most - a) : pV (((List.range (most - a)).take (i + 1)).flatMap (partsIn most m a)) = pV (((List.range (most - a)).take i).flatMap (partsIn most m a)) ++ (if i < most - a then pV (partsIn most m a i) else []) := by
 split
 ·rename_i h
  rw [show (List.range (most - a)).take (i + 1) = (List.range (most - a)).take i ++ [i] by rw [List.take_succ_eq_append_getElem (by simpa using h), List.getElem_range], List.flatMap_append, pV_append]
  simp
 ·rename_i h
  rw [List.take_of_length_le (by simp; omega), List.take_of_length_le (by simp; omega), List.append_nil]
theorem partsL_len (most : Nat) : ∀ (m a : Nat), ∀ x ∈ partsL most m a, x.length = m
 | 0, a, x, h => by simp [partsL] at h; subst h; rfl
 | m + 1, a, x, h => by
  simp only [partsL, List.mem_flatMap, List.mem_map] at h;obtain ⟨i, _, y, hy, rfl⟩ := h;rw [List.length_cons, partsL_len most m _ y hy]
def PartsG (most m : Nat) : Prop := ∀ (a : Nat), a ≤ 100 + most → ∀ xs : List (List AV), lim F 85 [.ylog none xs, .iptr (.agg [iv m]) 0, .iptr (.agg [iv a]) 0, .iptr (.agg [iv most]) 0] = some (.tuple [], [.ylog none (xs ++ pV (partsL most m a))])
def PartsK (most m : Nat) : Prop := ∀ (a : Nat), a ≤ 100 + most → lim F 85 [.ylog (some 0) (pV (partsL most m a)), .iptr (.agg [iv m]) 0, .iptr (.agg [iv a]) 0, .iptr (.agg [iv most]) 0] = some (.tuple [], [.ylog (some 0) []])
def PartsX (most m : Nat) : Prop := ∀ (a : Nat), a ≤ 100 + most → ∀ k, k < (partsL most m a).length → lim F 85 [.ylog (some 1) ((pV (partsL most m a)).take (k + 1)), .iptr (.agg [iv m]) 0, .iptr (.agg [iv a]) 0, .iptr (.agg [iv most]) 0] = some (.tuple [], [.ylog (some 1) []])
theorem partsG_zero (most : Nat) : PartsG most 0 := by
 intro a ha xs;refine lim_by (fn := a85) (k := 4) (res := []) rfl rfl rfl (by simp -implicitDefEqProofs (maxSteps := 2000000) (disch := first | exact tt_rfl rfl | omega | (simp only [go_sem] <;> omega) | fail) only [go_sem]) ?_
 try delta mvA
 try delta opA
 try delta tA
 simp -implicitDefEqProofs (maxSteps := 2000000) (disch := first | exact tt_rfl rfl | omega | (simp only [go_sem] <;> omega) | fail) only [go_sem]
 repeat (first | apply Wp.seqA | apply Wp.skipS | apply Wp.blockS | ((first | apply Wp.regS | apply Wp.condV | apply Wp.reg | apply Wp.condW | apply fin_ret); simp -implicitDefEqProofs (maxSteps := 2000000) (disch := first | exact tt_rfl rfl | omega | (simp only [go_sem] <;> omega) | fail) only [go_sem] <;> try with_reducible rfl) | apply Wp.block | apply Wp.exitS | apply Wp.retS | apply Wp.exit | apply Wp.ret | apply Wp.skip)
 rfl
theorem pV_get {P : List (List Nat)} {j : Nat} {v : List AV} (hv : (pV P)[j]? = some v) : ∃ hj : j < P.length, v = [partV P[j]] := by
 rcases Nat.lt_or_ge j P.length with hj | hj
 ·rw [pV, List.getElem?_map, List.getElem?_eq_getElem hj] at hv
  exact ⟨hj, by cases hv; rfl⟩
 ·rw [pV, List.getElem?_map, List.getElem?_eq_none hj] at hv; cases hv
theorem partsG_succ (most : Nat) (hm : most ≤ 100) (m : Nat) (hm1 : m ≤ 100) (ih : PartsG most m) (ik : PartsK most m) : PartsG most (m + 1) := by
 intro a ha xs;have hp := fun n : Nat => parts_ok n most m
 refine lim_by (fn := a85) (k := 4) (res := []) rfl rfl rfl (by simp -implicitDefEqProofs (maxSteps := 2000000) (disch := first | exact tt_rfl rfl | omega | (simp only [go_sem] <;> omega) | fail) only [go_sem]) ?_
 try delta mvA
 try delta opA
 try delta tA
 simp -implicitDefEqProofs (maxSteps := 2000000) (disch := first | exact tt_rfl rfl | omega | (simp only [go_sem] <;> omega) | fail) only [go_sem]
 repeat (first | apply Wp.seqA | apply Wp.skipS | apply Wp.blockS | ((first | apply Wp.regS | apply Wp.condV | apply Wp.reg | apply Wp.condW | apply fin_ret); simp -implicitDefEqProofs (maxSteps := 2000000) (disch := first | exact tt_rfl rfl | omega | (simp only [go_sem] <;> omega) | fail) only [go_sem, show ¬ ((m : Int) + 1 = 0) by omega, show (((m + 1 : Nat)) : Int) = m + 1 by omega] <;> try with_reducible rfl) | apply Wp.block | apply Wp.exitS | apply Wp.retS | apply Wp.exit | apply Wp.ret | apply Wp.skip)
 apply Wp.loopF (most - a) (fun i => ⟨[(1, .iptr (.agg [iv ((m : Int) + 1)]) 0), (3, .iptr (.agg [iv most]) 0), (4, .ptr 256 0 0), (5, .ptr 320 0 0)], [(256, .box [.yieldT 200000]), (320, .box [iv ((a : Int) + i)]), (200000, .num 3500000), (3500000, .log none (xs ++ pV (((List.range (most - a)).take i).flatMap (partsIn most m a))))], [(200000, none)], 10000000⟩) (fun _ => True)
 ·simp -implicitDefEqProofs (maxSteps := 2000000) (disch := first | exact tt_rfl rfl | omega | (simp only [go_sem] <;> omega) | fail) only [go_sem, norm_eq, Ok.some]
  simp [pV]
 ·trivial
 intro i hi _;by_cases h : i < most - a
 ·have hg := ih (a + i + 1) (by omega) []
  have hk := ik (a + i + 1) (by omega)
  rw [List.nil_append] at hg;have hq := hp (a + i + 1);rw [show ((a + i + 1 : Nat) : Int) = (a : Int) + i + 1 by omega] at hg hq hk
  repeat (first | apply Wp.seqA | apply Wp.skipS | apply Wp.blockS | ((first | apply Wp.regS | apply Wp.condV | apply Wp.reg | apply Wp.condW | apply fin_ret); simp -implicitDefEqProofs (maxSteps := 2000000) (disch := first | exact tt_rfl rfl | omega | (simp only [go_sem] <;> omega) | fail) only [go_sem, show (a : Int) + i < most by omega, hq, show (m : Int) + 1 - 1 = m by omega] <;> try with_reducible rfl) | apply Wp.block | apply Wp.exitS | apply Wp.retS | apply Wp.exit | apply Wp.ret | apply Wp.skip)
  have hx := partsL_at most m a i (by omega)
  rw [if_pos h] at hx;generalize pV (((List.range (most - a)).take i).flatMap (partsIn most m a)) = X at *;generalize pV (((List.range (most - a)).take (i + 1)).flatMap (partsIn most m a)) = X' at *;subst hx;unfold partsIn;have hpl := partsL_len most m (a + i + 1);generalize partsL most m (a + i + 1) = P at *;refine Wp.rangeF (fun j fr => fr = ⟨[(1, .iptr (.agg [iv ((m : Int) + 1)]) 0), (3, .iptr (.agg [iv most]) 0), (4, .ptr 256 0 0), (5, .ptr 320 0 0)], [(256, .box [.yieldT 200000]), (320, .box [iv ((a : Int) + i)]), (200000, .num 3500000), (3500000, .log none (xs ++ X ++ pV ((P.take j).map fun l => (a + i) :: l)))], [(200000, none)], 10000000⟩) rfl rfl hg hk ?_ ?_ ?_
  ·simp -implicitDefEqProofs (maxSteps := 2000000) (disch := first | exact tt_rfl rfl | omega | (simp only [go_sem] <;> omega) | fail) only [go_sem, norm_eq, Ok.some]
   simp [pV]
  ·rintro j v fr hv rfl
   obtain ⟨hj, rfl⟩ := pV_get hv;rw [show P.take (j + 1) = P.take j ++ [P[j]] by rw [List.take_succ_eq_append_getElem hj]]
   refine ⟨_, rfl, ?_⟩;have hrl := hpl P[j] (List.getElem_mem hj);unfold partV;generalize P[j] = r at *;have n1 : (natsV r).length = m := by simp [hrl]
   have tk : List.take (1 + m) (AV.int .i64 ((a : Int) + i) :: natsV r) = AV.int .i64 ((a : Int) + i) :: natsV r := List.take_of_length_le (by simp [n1]; omega)
   repeat (first | apply Wp.seqA | apply Wp.skipS | apply Wp.blockS | ((first | apply Wp.regS | apply Wp.condV | apply Wp.reg | apply Wp.condW | apply fin_ret); simp -implicitDefEqProofs (maxSteps := 2000000) (disch := first | exact tt_rfl rfl | omega | (simp only [go_sem] <;> omega) | fail) only [go_sem, n1, show 1 + m ≤ 34359738368 by omega, show 1 + m - 1 = m by omega, tk] <;> try with_reducible rfl) | apply Wp.block | apply Wp.exitS | apply Wp.retS | apply Wp.exit | apply Wp.ret | apply Wp.skip)
   apply block_norm;apply round_next
   ·simp -implicitDefEqProofs (maxSteps := 2000000) (disch := first | exact tt_rfl rfl | omega | (simp only [go_sem] <;> omega) | fail) only [go_sem, norm_eq, Ok.some]; with_reducible rfl
   simp [pV, partV, natsV_cons]
  ·rintro fr rfl
   apply block_norm;repeat (first | apply Wp.seqA | apply Wp.skipS | apply Wp.blockS | ((first | apply Wp.regS | apply Wp.condV | apply Wp.reg | apply Wp.condW | apply fin_ret); simp -implicitDefEqProofs (maxSteps := 2000000) (disch := first | exact tt_rfl rfl | omega | (simp only [go_sem] <;> omega) | fail) only [go_sem] <;> try with_reducible rfl) | apply Wp.block | apply Wp.exitS | apply Wp.retS | apply Wp.exit | apply Wp.ret | apply Wp.skip)
   apply round_next
   ·simp -implicitDefEqProofs (maxSteps := 2000000) (disch := first | exact tt_rfl rfl | omega | (simp only [go_sem] <;> omega) | fail) only [go_sem, norm_eq, Ok.some]; with_reducible rfl
   exact ⟨h, by simp [pV, Int.add_assoc], trivial⟩
 ·obtain rfl : i = most - a := by omega
  repeat (first | apply Wp.seqA | apply Wp.skipS | apply Wp.blockS | ((first | apply Wp.regS | apply Wp.condV | apply Wp.reg | apply Wp.condW | apply fin_ret); simp -implicitDefEqProofs (maxSteps := 2000000) (disch := first | exact tt_rfl rfl | omega | (simp only [go_sem] <;> omega) | fail) only [go_sem, show ¬ (a : Int) + ((most - a : Nat) : Int) < most by omega] <;> try with_reducible rfl) | apply Wp.block | apply Wp.exitS | apply Wp.retS | apply Wp.exit | apply Wp.ret | apply Wp.skip)
  rw [List.take_of_length_le (by simp)]
  rfl
theorem beqL_map {α : Type} (f : α → AV) (h : ∀ x, AV.beq (f x) (f x) = true) (l : List α) : AV.beqL (l.map f) (l.map f) = true := by
 induction l with
 | nil => rfl
 | cons a l ih => simp only [List.map_cons, AV.beqL, h a, ih, Bool.and_self]
theorem beq_iv (n : Int) : AV.beq (iv n) (iv n) = true := by simp [AV.beq]
theorem list_beq (n : Nat) (r : List Nat) : AV.beqL [AV.list 1 (iv (n : Int) :: natsV r)] [AV.list 1 (iv (n : Int) :: natsV r)] = true := by
 have h := beqL_map (fun n : Nat => iv (n : Int)) (fun n => beq_iv n) (n :: r)
 have e : (n :: r).map (fun n : Nat => iv (n : Int)) = iv (n : Int) :: natsV r := by rw [← natsV_cons]; rfl
 rw [e] at h;simp only [AV.beqL, AV.beq] at h ⊢;simpa using h
theorem partsK_zero (most : Nat) : PartsK most 0 := by
 intro a ha;have e : pV (partsL most 0 a) = [[.list 1 []]] := rfl;rw [e];have b : AV.beqL [.list 1 []] [.list 1 []] = true := by simp [AV.beqL, AV.beq]
 refine lim_by (fn := a85) (k := 4) (res := []) rfl rfl rfl (by simp -implicitDefEqProofs (maxSteps := 2000000) (disch := first | exact tt_rfl rfl | omega | (simp only [go_sem] <;> omega) | fail) only [go_sem]) ?_
 try delta mvA
 try delta opA
 try delta tA
 simp -implicitDefEqProofs (maxSteps := 2000000) (disch := first | exact tt_rfl rfl | omega | (simp only [go_sem] <;> omega) | fail) only [go_sem]
 repeat (first | apply Wp.seqA | apply Wp.skipS | apply Wp.blockS | ((first | apply Wp.regS | apply Wp.condV | apply Wp.reg | apply Wp.condW | apply fin_ret); simp -implicitDefEqProofs (maxSteps := 2000000) (disch := first | exact tt_rfl rfl | omega | (simp only [go_sem] <;> omega) | fail) only [go_sem, b] <;> try with_reducible rfl) | apply Wp.block | apply Wp.exitS | apply Wp.retS | apply Wp.exit | apply Wp.ret | apply Wp.skip)
theorem partsK_succ (most : Nat) (hm : most ≤ 100) (m : Nat) (hm1 : m ≤ 100) (ih : PartsG most m) (ik : PartsK most m) : PartsK most (m + 1) := by
 intro a ha;have hp := fun n : Nat => parts_ok n most m
 have e0 : partsL most (m + 1) a = (List.range (most - a)).flatMap (partsIn most m a) := rfl;rw [e0];refine lim_by (fn := a85) (k := 4) (res := []) rfl rfl rfl (by simp -implicitDefEqProofs (maxSteps := 2000000) (disch := first | exact tt_rfl rfl | omega | (simp only [go_sem] <;> omega) | fail) only [go_sem]) ?_
 try delta mvA
 try delta opA
 try delta tA
 simp -implicitDefEqProofs (maxSteps := 2000000) (disch := first | exact tt_rfl rfl | omega | (simp only [go_sem] <;> omega) | fail) only [go_sem]
 repeat (first | apply Wp.seqA | apply Wp.skipS | apply Wp.blockS | ((first | apply Wp.regS | apply Wp.condV | apply Wp.reg | apply Wp.condW | apply fin_ret); simp -implicitDefEqProofs (maxSteps := 2000000) (disch := first | exact tt_rfl rfl | omega | (simp only [go_sem] <;> omega) | fail) only [go_sem, show ¬ ((m : Int) + 1 = 0) by omega, show (((m + 1 : Nat)) : Int) = m + 1 by omega] <;> try with_reducible rfl) | apply Wp.block | apply Wp.exitS | apply Wp.retS | apply Wp.exit | apply Wp.ret | apply Wp.skip)
 apply Wp.loopF (most - a) (fun i => ⟨[(1, .iptr (.agg [iv ((m : Int) + 1)]) 0), (3, .iptr (.agg [iv most]) 0), (4, .ptr 256 0 0), (5, .ptr 320 0 0)], [(256, .box [.yieldT 200000]), (320, .box [iv ((a : Int) + i)]), (200000, .num 3500000), (3500000, .log (some 0) (pV (((List.range (most - a)).drop i).flatMap (partsIn most m a))))], [(200000, none)], 10000000⟩) (fun _ => True)
 ·simp -implicitDefEqProofs (maxSteps := 2000000) (disch := first | exact tt_rfl rfl | omega | (simp only [go_sem] <;> omega) | fail) only [go_sem, norm_eq, Ok.some]
  simp [pV]
 ·trivial
 intro i hi _;by_cases h : i < most - a
 ·have hg := ih (a + i + 1) (by omega) []
  have hk := ik (a + i + 1) (by omega)
  rw [List.nil_append] at hg;have hq := hp (a + i + 1);rw [show ((a + i + 1 : Nat) : Int) = (a : Int) + i + 1 by omega] at hg hq hk
  repeat (first | apply Wp.seqA | apply Wp.skipS | apply Wp.blockS | ((first | apply Wp.regS | apply Wp.condV | apply Wp.reg | apply Wp.condW | apply fin_ret); simp -implicitDefEqProofs (maxSteps := 2000000) (disch := first | exact tt_rfl rfl | omega | (simp only [go_sem] <;> omega) | fail) only [go_sem, show (a : Int) + i < most by omega, hq, show (m : Int) + 1 - 1 = m by omega] <;> try with_reducible rfl) | apply Wp.block | apply Wp.exitS | apply Wp.retS | apply Wp.exit | apply Wp.ret | apply Wp.skip)
  have hx : pV (((List.range (most - a)).drop i).flatMap (partsIn most m a)) = pV (partsIn most m a i) ++ pV (((List.range (most - a)).drop (i + 1)).flatMap (partsIn most m a)) := by
   rw [List.drop_eq_getElem_cons (by simpa using h), List.getElem_range, List.flatMap_cons, pV_append]
  rw [hx];generalize pV (((List.range (most - a)).drop (i + 1)).flatMap (partsIn most m a)) = X at *;unfold partsIn;have hpl := partsL_len most m (a + i + 1);generalize partsL most m (a + i + 1) = P at *;refine Wp.rangeF (fun j fr => fr = ⟨[(1, .iptr (.agg [iv ((m : Int) + 1)]) 0), (3, .iptr (.agg [iv most]) 0), (4, .ptr 256 0 0), (5, .ptr 320 0 0)], [(256, .box [.yieldT 200000]), (320, .box [iv ((a : Int) + i)]), (200000, .num 3500000), (3500000, .log (some 0) (pV ((P.drop j).map fun l => (a + i) :: l) ++ X))], [(200000, none)], 10000000⟩) rfl rfl hg hk ?_ ?_ ?_
  ·simp -implicitDefEqProofs (maxSteps := 2000000) (disch := first | exact tt_rfl rfl | omega | (simp only [go_sem] <;> omega) | fail) only [go_sem, norm_eq, Ok.some]
  ·rintro j v fr hv rfl
   obtain ⟨hj, rfl⟩ := pV_get hv;rw [List.drop_eq_getElem_cons hj];refine ⟨_, rfl, ?_⟩;have hrl := hpl P[j] (List.getElem_mem hj);unfold partV;generalize P[j] = r at *;have n1 : (natsV r).length = m := by simp [hrl]
   have tk : List.take (1 + m) (AV.int .i64 ((a : Int) + i) :: natsV r) = AV.int .i64 ((a : Int) + i) :: natsV r := List.take_of_length_le (by simp [n1]; omega)
   have b1 := list_beq (a + i) r;have b2 : pV ((r :: P.drop (j + 1)).map fun l => (a + i) :: l) = [.list 1 (iv ((a + i : Nat) : Int) :: natsV r)] :: pV ((P.drop (j + 1)).map fun l => (a + i) :: l) := rfl
   have c1 : (((a + i : Nat)) : Int) = (a : Int) + i := by omega
   rw [b2, c1];rw [c1] at b1;repeat (first | apply Wp.seqA | apply Wp.skipS | apply Wp.blockS | ((first | apply Wp.regS | apply Wp.condV | apply Wp.reg | apply Wp.condW | apply fin_ret); simp -implicitDefEqProofs (maxSteps := 2000000) (disch := first | exact tt_rfl rfl | omega | (simp only [go_sem] <;> omega) | fail) only [go_sem, n1, show 1 + m ≤ 34359738368 by omega, show 1 + m - 1 = m by omega, tk, b1, if_true] <;> try with_reducible rfl) | apply Wp.block | apply Wp.exitS | apply Wp.retS | apply Wp.exit | apply Wp.ret | apply Wp.skip)
   apply block_norm;apply round_next
   ·simp -implicitDefEqProofs (maxSteps := 2000000) (disch := first | exact tt_rfl rfl | omega | (simp only [go_sem] <;> omega) | fail) only [go_sem, norm_eq, Ok.some]; with_reducible rfl
   trivial
  ·rintro fr rfl
   apply block_norm;repeat (first | apply Wp.seqA | apply Wp.skipS | apply Wp.blockS | ((first | apply Wp.regS | apply Wp.condV | apply Wp.reg | apply Wp.condW | apply fin_ret); simp -implicitDefEqProofs (maxSteps := 2000000) (disch := first | exact tt_rfl rfl | omega | (simp only [go_sem] <;> omega) | fail) only [go_sem] <;> try with_reducible rfl) | apply Wp.block | apply Wp.exitS | apply Wp.retS | apply Wp.exit | apply Wp.ret | apply Wp.skip)
   apply round_next
   ·simp -implicitDefEqProofs (maxSteps := 2000000) (disch := first | exact tt_rfl rfl | omega | (simp only [go_sem] <;> omega) | fail) only [go_sem, norm_eq, Ok.some]; with_reducible rfl
   exact ⟨h, by simp [pV, Int.add_assoc], trivial⟩
 ·obtain rfl : i = most - a := by omega
  repeat (first | apply Wp.seqA | apply Wp.skipS | apply Wp.blockS | ((first | apply Wp.regS | apply Wp.condV | apply Wp.reg | apply Wp.condW | apply fin_ret); simp -implicitDefEqProofs (maxSteps := 2000000) (disch := first | exact tt_rfl rfl | omega | (simp only [go_sem] <;> omega) | fail) only [go_sem, show ¬ (a : Int) + ((most - a : Nat) : Int) < most by omega] <;> try with_reducible rfl) | apply Wp.block | apply Wp.exitS | apply Wp.retS | apply Wp.exit | apply Wp.ret | apply Wp.skip)
  rw [List.drop_of_length_le (by simp)]
  rfl
theorem partsX_zero (most : Nat) : PartsX most 0 := by
 intro a ha k hk;have e : (pV (partsL most 0 a)).take (k + 1) = [[.list 1 []]] := by
  simp [partsL] at hk;subst hk;rfl
 rw [e];have b : AV.beqL [.list 1 []] [.list 1 []] = true := by simp [AV.beqL, AV.beq]
 refine lim_by (fn := a85) (k := 4) (res := []) rfl rfl rfl (by simp -implicitDefEqProofs (maxSteps := 2000000) (disch := first | exact tt_rfl rfl | omega | (simp only [go_sem] <;> omega) | fail) only [go_sem]) ?_
 try delta mvA
 try delta opA
 try delta tA
 simp -implicitDefEqProofs (maxSteps := 2000000) (disch := first | exact tt_rfl rfl | omega | (simp only [go_sem] <;> omega) | fail) only [go_sem]
 repeat (first | apply Wp.seqA | apply Wp.skipS | apply Wp.blockS | ((first | apply Wp.regS | apply Wp.condV | apply Wp.reg | apply Wp.condW | apply fin_ret); simp -implicitDefEqProofs (maxSteps := 2000000) (disch := first | exact tt_rfl rfl | omega | (simp only [go_sem] <;> omega) | fail) only [go_sem, b] <;> try with_reducible rfl) | apply Wp.block | apply Wp.exitS | apply Wp.retS | apply Wp.exit | apply Wp.ret | apply Wp.skip)
theorem partsX_succ (most : Nat) (hm : most ≤ 100) (m : Nat) (hm1 : m ≤ 100) (ih : PartsG most m) (ik : PartsK most m) (ix : PartsX most m) : PartsX most (m + 1) := by
 intro a ha k hkl;have hp := fun n : Nat => parts_ok n most m
 have e0 : partsL most (m + 1) a = (List.range (most - a)).flatMap (partsIn most m a) := rfl;rw [e0] at hkl ⊢;refine lim_by (fn := a85) (k := 4) (res := []) rfl rfl rfl (by simp -implicitDefEqProofs (maxSteps := 2000000) (disch := first | exact tt_rfl rfl | omega | (simp only [go_sem] <;> omega) | fail) only [go_sem]) ?_
 try delta mvA
 try delta opA
 try delta tA
 simp -implicitDefEqProofs (maxSteps := 2000000) (disch := first | exact tt_rfl rfl | omega | (simp only [go_sem] <;> omega) | fail) only [go_sem]
 repeat (first | apply Wp.seqA | apply Wp.skipS | apply Wp.blockS | ((first | apply Wp.regS | apply Wp.condV | apply Wp.reg | apply Wp.condW | apply fin_ret); simp -implicitDefEqProofs (maxSteps := 2000000) (disch := first | exact tt_rfl rfl | omega | (simp only [go_sem] <;> omega) | fail) only [go_sem, show ¬ ((m : Int) + 1 = 0) by omega, show (((m + 1 : Nat)) : Int) = m + 1 by omega] <;> try with_reducible rfl) | apply Wp.block | apply Wp.exitS | apply Wp.retS | apply Wp.exit | apply Wp.ret | apply Wp.skip)
 apply Wp.loopF (most - a) (fun i => ⟨[(1, .iptr (.agg [iv ((m : Int) + 1)]) 0), (3, .iptr (.agg [iv most]) 0), (4, .ptr 256 0 0), (5, .ptr 320 0 0)], [(256, .box [.yieldT 200000]), (320, .box [iv ((a : Int) + i)]), (200000, .num 3500000), (3500000, .log (some 1) ((pV (((List.range (most - a)).drop i).flatMap (partsIn most m a))).take (k + 1 - (((List.range (most - a)).take i).flatMap (partsIn most m a)).length)))], [(200000, none)], 10000000⟩) (fun i => (((List.range (most - a)).take i).flatMap (partsIn most m a)).length ≤ k)
 ·simp -implicitDefEqProofs (maxSteps := 2000000) (disch := first | exact tt_rfl rfl | omega | (simp only [go_sem] <;> omega) | fail) only [go_sem, norm_eq, Ok.some]
  simp [pV]
 ·simp
 intro i hi hq0;by_cases h : i < most - a
 ·have hg := ih (a + i + 1) (by omega) []
  have hk := ik (a + i + 1) (by omega)
  have hxx := ix (a + i + 1) (by omega)
  rw [List.nil_append] at hg;have hq := hp (a + i + 1);rw [show ((a + i + 1 : Nat) : Int) = (a : Int) + i + 1 by omega] at hg hq hk hxx
  repeat (first | apply Wp.seqA | apply Wp.skipS | apply Wp.blockS | ((first | apply Wp.regS | apply Wp.condV | apply Wp.reg | apply Wp.condW | apply fin_ret); simp -implicitDefEqProofs (maxSteps := 2000000) (disch := first | exact tt_rfl rfl | omega | (simp only [go_sem] <;> omega) | fail) only [go_sem, show (a : Int) + i < most by omega, hq, show (m : Int) + 1 - 1 = m by omega] <;> try with_reducible rfl) | apply Wp.block | apply Wp.exitS | apply Wp.retS | apply Wp.exit | apply Wp.ret | apply Wp.skip)
  have hx : pV (((List.range (most - a)).drop i).flatMap (partsIn most m a)) = pV (partsIn most m a i) ++ pV (((List.range (most - a)).drop (i + 1)).flatMap (partsIn most m a)) := by
   rw [List.drop_eq_getElem_cons (by simpa using h), List.getElem_range, List.flatMap_cons, pV_append]
  have hy : (((List.range (most - a)).take (i + 1)).flatMap (partsIn most m a)).length = (((List.range (most - a)).take i).flatMap (partsIn most m a)).length + (partsIn most m a i).length := by
   rw [show (List.range (most - a)).take (i + 1) = (List.range (most - a)).take i ++ [i] by rw [List.take_succ_eq_append_getElem (by simpa using h), List.getElem_range], List.flatMap_append, List.length_append]
   simp
  have hz : ((List.range (most - a)).flatMap (partsIn most m a)).length = (((List.range (most - a)).take (i + 1)).flatMap (partsIn most m a)).length + (pV (((List.range (most - a)).drop (i + 1)).flatMap (partsIn most m a))).length := by
   rw [pV, List.length_map, ← List.length_append, ← List.flatMap_append, List.take_append_drop]
  rw [hx];generalize pV (((List.range (most - a)).drop (i + 1)).flatMap (partsIn most m a)) = X at *;generalize (((List.range (most - a)).take (i + 1)).flatMap (partsIn most m a)).length = c' at *;generalize (((List.range (most - a)).take i).flatMap (partsIn most m a)).length = c at *;rw [hz] at hkl;unfold partsIn at hy ⊢;rw [List.length_map] at hy;have hpl := partsL_len most m (a + i + 1);generalize partsL most m (a + i + 1) = P at *;obtain ⟨q, hqe⟩ : ∃ q, k + 1 - c = q + 1 := ⟨k - c, by omega⟩
  rw [hqe];by_cases hqp : q < P.length
  ·have hst := hxx q hqp
   refine Wp.rangeX (fun j fr => j ≤ q ∧ fr = ⟨[(1, .iptr (.agg [iv ((m : Int) + 1)]) 0), (3, .iptr (.agg [iv most]) 0), (4, .ptr 256 0 0), (5, .ptr 320 0 0)], [(256, .box [.yieldT 200000]), (320, .box [iv ((a : Int) + i)]), (200000, .num 3500000), (3500000, .log (some 1) ((pV ((P.drop j).map fun l => (a + i) :: l) ++ X).take (q + 1 - j)))], [(200000, none)], 10000000⟩) q [partV P[q]] rfl rfl hg (by rw [pV, List.getElem?_map, List.getElem?_eq_getElem hqp]; rfl) hst ?_ ?_ ?_
   ·simp -implicitDefEqProofs (maxSteps := 2000000) (disch := first | exact tt_rfl rfl | omega | (simp only [go_sem] <;> omega) | fail) only [go_sem, norm_eq, Ok.some]
    exact ⟨Nat.zero_le _, rfl⟩
   ·rintro j v fr hjq hv ⟨_, rfl⟩
    obtain ⟨hj, rfl⟩ := pV_get hv;rw [List.drop_eq_getElem_cons hj];refine ⟨_, rfl, ?_⟩;have hrl := hpl P[j] (List.getElem_mem hj);unfold partV;generalize P[j] = r at *;have n1 : (natsV r).length = m := by simp [hrl]
    have tk : List.take (1 + m) (AV.int .i64 ((a : Int) + i) :: natsV r) = AV.int .i64 ((a : Int) + i) :: natsV r := List.take_of_length_le (by simp [n1]; omega)
    have b1 := list_beq (a + i) r;have b2 : pV ((r :: P.drop (j + 1)).map fun l => (a + i) :: l) = [.list 1 (iv ((a + i : Nat) : Int) :: natsV r)] :: pV ((P.drop (j + 1)).map fun l => (a + i) :: l) := rfl
    have c1 : (((a + i : Nat)) : Int) = (a : Int) + i := by omega
    have he : (List.take (q + 1 - (j + 1)) (pV ((P.drop (j + 1)).map fun l => (a + i) :: l) ++ X)).isEmpty = false := by
     rw [List.isEmpty_eq_false_iff, ← List.length_pos_iff];simp [pV]; omega
    rw [b2, c1, List.cons_append, show q + 1 - j = (q + 1 - (j + 1)) + 1 by omega, List.take_succ_cons]
    rw [c1] at b1;generalize List.take (q + 1 - (j + 1)) (pV ((P.drop (j + 1)).map fun l => (a + i) :: l) ++ X) = Z at *
    repeat (first | apply Wp.seqA | apply Wp.skipS | apply Wp.blockS | ((first | apply Wp.regS | apply Wp.condV | apply Wp.reg | apply Wp.condW | apply fin_ret); simp -implicitDefEqProofs (maxSteps := 2000000) (disch := first | exact tt_rfl rfl | omega | (simp only [go_sem] <;> omega) | fail) only [go_sem, n1, show 1 + m ≤ 34359738368 by omega, show 1 + m - 1 = m by omega, tk, b1, if_true, he] <;> try with_reducible rfl) | apply Wp.block | apply Wp.exitS | apply Wp.retS | apply Wp.exit | apply Wp.ret | apply Wp.skip)
    apply block_norm;apply round_next
    ·simp -implicitDefEqProofs (maxSteps := 2000000) (disch := first | exact tt_rfl rfl | omega | (simp only [go_sem] <;> omega) | fail) only [go_sem, norm_eq, Ok.some]; with_reducible rfl
    exact ⟨by omega, rfl⟩
   ·rintro fr ⟨_, rfl⟩
    rw [List.drop_eq_getElem_cons hqp];refine ⟨_, rfl, ?_⟩;have hrl := hpl P[q] (List.getElem_mem hqp);unfold partV;generalize P[q] = r at *;have n1 : (natsV r).length = m := by simp [hrl]
    have tk : List.take (1 + m) (AV.int .i64 ((a : Int) + i) :: natsV r) = AV.int .i64 ((a : Int) + i) :: natsV r := List.take_of_length_le (by simp [n1]; omega)
    have b1 := list_beq (a + i) r;have b2 : pV ((r :: P.drop (q + 1)).map fun l => (a + i) :: l) = [.list 1 (iv ((a + i : Nat) : Int) :: natsV r)] :: pV ((P.drop (q + 1)).map fun l => (a + i) :: l) := rfl
    have c1 : (((a + i : Nat)) : Int) = (a : Int) + i := by omega
    rw [b2, c1, List.cons_append, show q + 1 - q = 0 + 1 by omega, List.take_succ_cons, List.take_zero]
    rw [c1] at b1;repeat (first | apply Wp.seqA | apply Wp.skipS | apply Wp.blockS | ((first | apply Wp.regS | apply Wp.condV | apply Wp.reg | apply Wp.condW | apply fin_ret); simp -implicitDefEqProofs (maxSteps := 2000000) (disch := first | exact tt_rfl rfl | omega | (simp only [go_sem] <;> omega) | fail) only [go_sem, n1, show 1 + m ≤ 34359738368 by omega, show 1 + m - 1 = m by omega, tk, b1, if_true] <;> try with_reducible rfl) | apply Wp.block | apply Wp.exitS | apply Wp.retS | apply Wp.exit | apply Wp.ret | apply Wp.skip)
  ·refine Wp.rangeF (fun j fr => fr = ⟨[(1, .iptr (.agg [iv ((m : Int) + 1)]) 0), (3, .iptr (.agg [iv most]) 0), (4, .ptr 256 0 0), (5, .ptr 320 0 0)], [(256, .box [.yieldT 200000]), (320, .box [iv ((a : Int) + i)]), (200000, .num 3500000), (3500000, .log (some 1) ((pV ((P.drop j).map fun l => (a + i) :: l) ++ X).take (q + 1 - j)))], [(200000, none)], 10000000⟩) rfl rfl hg hk ?_ ?_ ?_
   ·simp -implicitDefEqProofs (maxSteps := 2000000) (disch := first | exact tt_rfl rfl | omega | (simp only [go_sem] <;> omega) | fail) only [go_sem, norm_eq, Ok.some]
    rfl
   ·rintro j v fr hv rfl
    obtain ⟨hj, rfl⟩ := pV_get hv;rw [List.drop_eq_getElem_cons hj];refine ⟨_, rfl, ?_⟩;have hrl := hpl P[j] (List.getElem_mem hj);unfold partV;generalize P[j] = r at *;have n1 : (natsV r).length = m := by simp [hrl]
    have tk : List.take (1 + m) (AV.int .i64 ((a : Int) + i) :: natsV r) = AV.int .i64 ((a : Int) + i) :: natsV r := List.take_of_length_le (by simp [n1]; omega)
    have b1 := list_beq (a + i) r;have b2 : pV ((r :: P.drop (j + 1)).map fun l => (a + i) :: l) = [.list 1 (iv ((a + i : Nat) : Int) :: natsV r)] :: pV ((P.drop (j + 1)).map fun l => (a + i) :: l) := rfl
    have c1 : (((a + i : Nat)) : Int) = (a : Int) + i := by omega
    have he : (List.take (q + 1 - (j + 1)) (pV ((P.drop (j + 1)).map fun l => (a + i) :: l) ++ X)).isEmpty = false := by
     rw [List.isEmpty_eq_false_iff, ← List.length_pos_iff];simp [pV]; omega
    rw [b2, c1, List.cons_append, show q + 1 - j = (q + 1 - (j + 1)) + 1 by omega, List.take_succ_cons]
    rw [c1] at b1;generalize List.take (q + 1 - (j + 1)) (pV ((P.drop (j + 1)).map fun l => (a + i) :: l) ++ X) = Z at *
    repeat (first | apply Wp.seqA | apply Wp.skipS | apply Wp.blockS | ((first | apply Wp.regS | apply Wp.condV | apply Wp.reg | apply Wp.condW | apply fin_ret); simp -implicitDefEqProofs (maxSteps := 2000000) (disch := first | exact tt_rfl rfl | omega | (simp only [go_sem] <;> omega) | fail) only [go_sem, n1, show 1 + m ≤ 34359738368 by omega, show 1 + m - 1 = m by omega, tk, b1, if_true, he] <;> try with_reducible rfl) | apply Wp.block | apply Wp.exitS | apply Wp.retS | apply Wp.exit | apply Wp.ret | apply Wp.skip)
    apply block_norm;apply round_next
    ·simp -implicitDefEqProofs (maxSteps := 2000000) (disch := first | exact tt_rfl rfl | omega | (simp only [go_sem] <;> omega) | fail) only [go_sem, norm_eq, Ok.some]; with_reducible rfl
    trivial
   ·rintro fr rfl
    apply block_norm;repeat (first | apply Wp.seqA | apply Wp.skipS | apply Wp.blockS | ((first | apply Wp.regS | apply Wp.condV | apply Wp.reg | apply Wp.condW | apply fin_ret); simp -implicitDefEqProofs (maxSteps := 2000000) (disch := first | exact tt_rfl rfl | omega | (simp only [go_sem] <;> omega) | fail) only [go_sem] <;> try with_reducible rfl) | apply Wp.block | apply Wp.exitS | apply Wp.retS | apply Wp.exit | apply Wp.ret | apply Wp.skip)
    apply round_next
    ·simp -implicitDefEqProofs (maxSteps := 2000000) (disch := first | exact tt_rfl rfl | omega | (simp only [go_sem] <;> omega) | fail) only [go_sem, norm_eq, Ok.some]; with_reducible rfl
    have e : k + 1 - c' = q + 1 - P.length := by omega
    have e2 : (pV P).length = P.length := by simp [pV]
    refine ⟨h, ?_, by omega⟩
    rw [e, e2, show P.drop P.length = [] by simp]
    simp [pV, Int.add_assoc]
 ·exfalso
  obtain rfl : i = most - a := by omega
  rw [List.take_of_length_le (by simp)] at hq0
  omega
theorem parts_all (most : Nat) (hm : most ≤ 100) : ∀ m, m ≤ 100 → PartsG most m ∧ PartsK most m ∧ PartsX most m
 | 0, _ => ⟨partsG_zero most, partsK_zero most, partsX_zero most⟩
 | m + 1, h => by
  obtain ⟨h1, h2, h3⟩ := parts_all most hm m (by omega)
  exact ⟨partsG_succ most hm m (by omega) h1 h2, partsK_succ most hm m (by omega) h1 h2, partsX_succ most hm m (by omega) h1 h2 h3⟩
end Go.Abs
set_option linter.all false
namespace Go.Abs
set_option maxRecDepth 10000
set_option maxHeartbeats 4000000
theorem EqualI_ok (a b : List AV) (xa xb : List Int) (ea : a = xa.map fun n => iv n) (eb : b = xb.map fun n => iv n) (hl : xa.length ≤ 1000000) : lim F 67 [.list 1 a, .list 1 b] = some (.bool (decide (xa = xb)), []) := by
 subst ea eb;by_cases h1 : xa.length = xb.length
 ·refine lim_by (fn := a67) (k := 2) (res := [.tmp 4]) rfl rfl rfl (by simp -implicitDefEqProofs (maxSteps := 2000000) (disch := first | exact tt_rfl rfl | omega | (simp only [go_sem] <;> omega) | fail) only [go_sem]) ?_
  try delta mvA
  try delta opA
  try delta tA
  simp -implicitDefEqProofs (maxSteps := 2000000) (disch := first | exact tt_rfl rfl | omega | (simp only [go_sem] <;> omega) | fail) only [go_sem]
  repeat (first | apply Wp.seqA | apply Wp.skipS | apply Wp.blockS | ((first | apply Wp.regS | apply Wp.condV | apply Wp.reg | apply Wp.condW | apply fin_ret); simp -implicitDefEqProofs (maxSteps := 2000000) (disch := first | exact tt_rfl rfl | omega | (simp only [go_sem] <;> omega) | fail) only [go_sem, h1] <;> try with_reducible rfl) | apply Wp.block | apply Wp.exitS | apply Wp.retS | apply Wp.exit | apply Wp.ret | apply Wp.skip)
  apply Wp.loopF xa.length (fun i => ⟨[(0, .list 1 (xa.map fun n => iv n)), (1, .list 1 (xb.map fun n => iv n)), (12, iv xa.length), (13, iv i)], [], [], 10000000⟩) (fun i => ∀ j (hj : j < xa.length) (hj' : j < xb.length), j < i → xa[j] = xb[j])
  ·simp -implicitDefEqProofs (maxSteps := 2000000) (disch := first | exact tt_rfl rfl | omega | (simp only [go_sem] <;> omega) | fail) only [go_sem, norm_eq, Ok.some]
   rw [h1];try rfl
  ·intro j hj _ h; omega
  intro i hi hn;by_cases h : i < xa.length
  ·have h' : i < xb.length := by omega
   by_cases hb : xa[i] = xb[i]
   ·repeat (first | apply Wp.seqA | apply Wp.skipS | apply Wp.blockS | ((first | apply Wp.regS | apply Wp.condV | apply Wp.reg | apply Wp.condW | apply fin_ret); simp -implicitDefEqProofs (maxSteps := 2000000) (disch := first | exact tt_rfl rfl | omega | (simp only [go_sem] <;> omega) | fail) only [go_sem, h, List.getElem?_map, List.getElem?_eq_getElem h, List.getElem?_eq_getElem h', Option.map_some, Int.ofNat_lt, hb] <;> try with_reducible rfl) | apply Wp.block | apply Wp.exitS | apply Wp.retS | apply Wp.exit | apply Wp.ret | apply Wp.skip)
    apply round_next
    ·simp -implicitDefEqProofs (maxSteps := 2000000) (disch := first | exact tt_rfl rfl | omega | (simp only [go_sem] <;> omega) | fail) only [go_sem, norm_eq, Ok.some]; with_reducible rfl
    refine ⟨h, by simp, fun j hj hj' hji => ?_⟩
    by_cases e : j = i
    ·subst e; exact hb
    ·exact hn j hj hj' (by omega)
   ·repeat (first | apply Wp.seqA | apply Wp.skipS | apply Wp.blockS | ((first | apply Wp.regS | apply Wp.condV | apply Wp.reg | apply Wp.condW | apply fin_ret); simp -implicitDefEqProofs (maxSteps := 2000000) (disch := first | exact tt_rfl rfl | omega | (simp only [go_sem] <;> omega) | fail) only [go_sem, h, List.getElem?_map, List.getElem?_eq_getElem h, List.getElem?_eq_getElem h', Option.map_some, Int.ofNat_lt, hb] <;> try with_reducible rfl) | apply Wp.block | apply Wp.exitS | apply Wp.retS | apply Wp.exit | apply Wp.ret | apply Wp.skip)
    rw [decide_eq_false fun e : xa = xb => hb (by simp only [e])]
  ·repeat (first | apply Wp.seqA | apply Wp.skipS | apply Wp.blockS | ((first | apply Wp.regS | apply Wp.condV | apply Wp.reg | apply Wp.condW | apply fin_ret); simp -implicitDefEqProofs (maxSteps := 2000000) (disch := first | exact tt_rfl rfl | omega | (simp only [go_sem] <;> omega) | fail) only [go_sem, h, Int.ofNat_lt] <;> try with_reducible rfl) | apply Wp.block | apply Wp.exitS | apply Wp.retS | apply Wp.exit | apply Wp.ret | apply Wp.skip)
   rw [decide_eq_true (List.ext_getElem h1 fun j hj hj' => hn j hj hj' (by omega))]
 ·refine lim_by (fn := a67) (k := 2) (res := [.tmp 4]) rfl rfl rfl (by simp -implicitDefEqProofs (maxSteps := 2000000) (disch := first | exact tt_rfl rfl | omega | (simp only [go_sem] <;> omega) | fail) only [go_sem]) ?_
  try delta mvA
  try delta opA
  try delta tA
  simp -implicitDefEqProofs (maxSteps := 2000000) (disch := first | exact tt_rfl rfl | omega | (simp only [go_sem] <;> omega) | fail) only [go_sem]
  repeat (first | apply Wp.seqA | apply Wp.skipS | apply Wp.blockS | ((first | apply Wp.regS | apply Wp.condV | apply Wp.reg | apply Wp.condW | apply fin_ret); simp -implicitDefEqProofs (maxSteps := 2000000) (disch := first | exact tt_rfl rfl | omega | (simp only [go_sem] <;> omega) | fail) only [go_sem, show ¬ (xa.length : Int) = xb.length by omega] <;> try with_reducible rfl) | apply Wp.block | apply Wp.exitS | apply Wp.retS | apply Wp.exit | apply Wp.ret | apply Wp.skip)
  rw [decide_eq_false fun e : xa = xb => h1 (by rw [e])]
theorem EqualN_ok (a b : List Nat) (hl : a.length ≤ 1000000) : lim F 67 [.list 1 (natsV a), .list 1 (natsV b)] = some (.bool (decide (a = b)), []) := by
 have h := EqualI_ok (natsV a) (natsV b) (a.map fun n : Nat => (n : Int)) (b.map fun n : Nat => (n : Int)) (by rw [List.map_map]; rfl) (by rw [List.map_map]; rfl) (by simpa using hl)
 have e : decide (a.map (fun n : Nat => (n : Int)) = b.map fun n : Nat => (n : Int)) = decide (a = b) := by
  rw [decide_eq_decide];refine ⟨fun h => ?_, fun h => by rw [h]⟩
  have h2 := congrArg (fun l => l.map Int.toNat) h
  simp only [List.map_map] at h2;have e : (Int.toNat ∘ fun n : Nat => (n : Int)) = id := by funext n; simp
  rw [e, List.map_id, List.map_id] at h2;exact h2
 rw [e] at h;exact h
def someN (s : List (List Nat)) (x : List Nat) : List (List Nat) := x.map fun k => s.getD k []
@[simp] theorem someN_len (s : List (List Nat)) (x : List Nat) : (someN s x).length = x.length := by simp [someN]
def isN (s : List (List Nat)) (n : Nat) (x : List Nat) : Bool := decide (joinN (someN s x) n = joinN s n)
theorem partsL_lt (most : Nat) : ∀ (m a : Nat), ∀ x ∈ partsL most m a, ∀ k ∈ x, a ≤ k ∧ k < most
 | 0, a, x, h => by simp [partsL] at h; subst h; simp
 | m + 1, a, x, h => by
  simp only [partsL, List.mem_flatMap, List.mem_map, List.mem_range] at h;obtain ⟨i, hi, y, hy, rfl⟩ := h;intro k hk;rcases List.mem_cons.1 hk with rfl | hk
  ·omega
  ·have := partsL_lt most m _ y hy k hk
   omega
def someV (s : List (List Nat)) (x : List Nat) (q : Nat) : List AV := ((someN s x).map listV).take q
theorem someV_succ {s : List (List Nat)} {x : List Nat} {q : Nat} (h : q < x.length) : someV s x (q + 1) = someV s x q ++ [.list 1 (natsV (s.getD (x.getD q 0) []))] := by
 unfold someV someN;rw [List.map_map, List.take_succ_eq_append_getElem (by simpa using h), List.getElem_map]
 rw [List.getD_eq_getElem?_getD (l := x), List.getElem?_eq_getElem h];rfl
theorem someV_len {s : List (List Nat)} {x : List Nat} {q : Nat} (h : q ≤ x.length) : (someV s x q).length = q := by simp [someV]; omega
theorem someV_all {s : List (List Nat)} {x : List Nat} {q : Nat} (h : q = x.length) : someV s x q = (someN s x).map listV := List.take_of_length_le (by simp; omega)
theorem Needed_ok {l : List DesN} {hk n : Nat} (h : SetsOk l hk n) (t : Bool) (M : Nat) (hM : M < l.length) (i0 : Nat) (hi0 : i0 < (partsL l.length (M + 1) 0).length) (hyes : isN (setsN t hk l) n (partsL l.length (M + 1) 0)[i0] = true) (hno : ∀ i (hi : i < (partsL l.length (M + 1) 0).length), i < i0 → isN (setsN t hk l) n (partsL l.length (M + 1) 0)[i] = false) (hnom : ∀ k, k < M → ∀ x ∈ partsL l.length (k + 1) 0, isN (setsN t hk l) n x = false) :
  lim F 27 [iv (wayOf t), .list 2 (l.map setV)] = some (.tuple [.list 1 (natsV (partsL l.length (M + 1) 0)[i0]), iv 0], []) := by
 obtain ⟨⟨k1, k2⟩, k3, k4⟩ := h.k1;have hl10 := h.l10;have hl1 := h.l1;have hO := open_ok h t;have hrow := setsN_row (t := t) h;have hr24 : ∀ r ∈ setsN t hk l, r.length = n ∧ ∀ x ∈ r, x < 2 ^ 24 := fun r hr => ⟨(hrow r hr).1, fun x hx => up24 ((hrow r hr).2 x hx) k2⟩
 have hJ := join_ok (setsN t hk l) n (by simp; exact h.l1) (by simp; omega) (by omega) hr24
 have hsl : (setsN t hk l).length = l.length := by simp
 generalize setsN t hk l = s at *;have hjn : ∀ x : List Nat, isN s n x = decide (joinN (someN s x) n = joinN s n) := fun _ => rfl
 have hsg : ∀ k, k < l.length → (s.getD k []).length = n ∧ ∀ x ∈ s.getD k [], x < 2 ^ 24 := fun k hk' => by
  rw [List.getD_eq_getElem?_getD, List.getElem?_eq_getElem (by omega)]
  exact hr24 _ (List.getElem_mem _)
 have hg : ∀ k, k < l.length → (s.map listV)[k]? = some (.list 1 (natsV (s.getD k []))) := fun k hk' => sets_get (by omega)
 have n1 : (s.map listV).length = l.length := by simp [hsl]
 have hP := fun m hm => parts_all l.length (by omega) m hm
 have hpa : ∀ m : Nat, lim F 66 [iv 0, iv (l.length : Int), iv ((m : Int) + 1)] = some (.func 85 [.iptr (.agg [iv ((m : Int) + 1)]) 0, .iptr (.agg [iv 0]) 0, .iptr (.agg [iv (l.length : Int)]) 0], []) := fun m => by
  have := parts_ok 0 l.length (m + 1);rw [show ((m + 1 : Nat) : Int) = (m : Int) + 1 by omega, show ((0 : Nat) : Int) = 0 from rfl] at this
  exact this
 have n3 : (l.map setV).length = l.length := by simp
 generalize hj : joinN s n = j at *;have hjlen : j.length = n := by rw [← hj]; simp
 have n2 : (natsV j).length = n := by simp [hjlen]
 have t2 : (natsV j).take n = natsV j := List.take_of_length_le (by omega)
 have P2 := nats_plain j;have tS : (s.map listV).take l.length = s.map listV := List.take_of_length_le (by omega)
 have hE : ∀ x : List Nat, lim F 67 [.list 1 (natsV (joinN (someN s x) n)), .list 1 (natsV j)] = some (.bool (isN s n x), []) := fun x => by rw [hjn]; exact EqualN_ok _ _ (by simp; omega)
 have hJx : ∀ m, m < l.length → ∀ x ∈ partsL l.length (m + 1) 0, lim F 63 [.list 1 ((someN s x).map listV)] = some (.own 1 (natsV (joinN (someN s x) n)), []) := fun m hm x hx => by
  have e1 := partsL_len l.length (m + 1) 0 x hx;have e2 := partsL_lt l.length (m + 1) 0 x hx;refine join_ok _ n (by simp; omega) (by simp; omega) (by omega) fun r hr => ?_
  obtain ⟨k, hk', rfl⟩ := List.mem_map.1 hr;exact hsg k (e2 k hk').2
 unfold openV at hO;generalize l.map setV = es at *;generalize hsm : s.map listV = sr at *;generalize hjv : natsV j = jr at *;refine lim_by (fn := a27) (k := 2) (res := [.cell 4 1 false, .cell 5 1 false]) rfl rfl rfl (by simp -implicitDefEqProofs (maxSteps := 2000000) (disch := first | exact tt_rfl rfl | omega | (simp only [go_sem] <;> omega) | fail) only [go_sem]) ?_
 try delta mvA
 try delta opA
 try delta tA
 simp -implicitDefEqProofs (maxSteps := 2000000) (disch := first | exact tt_rfl rfl | omega | (simp only [go_sem] <;> omega) | fail) only [go_sem]
 repeat (first | apply Wp.seqA | apply Wp.skipS | apply Wp.blockS | ((first | apply Wp.regS | apply Wp.condV | apply Wp.reg | apply Wp.condW | apply fin_ret); simp -implicitDefEqProofs (maxSteps := 2000000) (disch := first | exact tt_rfl rfl | omega | (simp only [go_sem] <;> omega) | fail) only [go_sem, hO, hJ, n1, n2, t2, P2, tS, ite_self] <;> try with_reducible rfl) | apply Wp.block | apply Wp.exitS | apply Wp.retS | apply Wp.exit | apply Wp.ret | apply Wp.skip)
 apply Wp.loopF M (fun i => ⟨[(1, .list 2 es), (4, .ptr 256 0 0), (5, .ptr 320 0 0), (6, .ptr 384 0 0), (8, .ptr 512 0 0), (9, iv ((i : Int) + 1))], [(256, .box [.slice 304096 0 0]), (320, .box [iv 0]), (384, .box [iv (hk : Int), .bool t, .slice 306146 0 l.length]), (512, .box [.slice 308192 0 n]), (304096, .arr 1 []), (306146, .arr 1 sr), (308192, .arr 1 jr)], [], 10000000⟩) (fun _ => True)
 ·simp -implicitDefEqProofs (maxSteps := 2000000) (disch := first | exact tt_rfl rfl | omega | (simp only [go_sem] <;> omega) | fail) only [go_sem, norm_eq, Ok.some]
  rfl
 ·trivial
 intro i hi _;obtain ⟨hG, hK, hX⟩ := hP (i + 1) (by omega)
 have hG := hG 0 (by omega) []
 have hK := hK 0 (by omega)
 have hX := hX 0 (by omega)
 rw [List.nil_append] at hG;rw [show ((0 : Nat) : Int) = 0 from rfl, show ((i + 1 : Nat) : Int) = (i : Int) + 1 by omega] at hG hK hX
 have hpi := hpa i;by_cases h' : i < M
 ·repeat (first | apply Wp.seqA | apply Wp.skipS | apply Wp.blockS | ((first | apply Wp.regS | apply Wp.condV | apply Wp.reg | apply Wp.condW | apply fin_ret); simp -implicitDefEqProofs (maxSteps := 2000000) (disch := first | exact tt_rfl rfl | omega | (simp only [go_sem] <;> omega) | fail) only [go_sem, hpi, n3] <;> try with_reducible rfl) | apply Wp.block | apply Wp.exitS | apply Wp.retS | apply Wp.exit | apply Wp.ret | apply Wp.skip)
  refine Wp.rangeF (fun _ fr => fr = ⟨[(1, .list 2 es), (4, .ptr 256 0 0), (5, .ptr 320 0 0), (6, .ptr 384 0 0), (8, .ptr 512 0 0), (9, iv ((i : Int) + 1))], [(256, .box [.slice 304096 0 0]), (320, .box [iv 0]), (384, .box [iv (hk : Int), .bool t, .slice 306146 0 l.length]), (512, .box [.slice 308192 0 n]), (304096, .arr 1 []), (306146, .arr 1 sr), (308192, .arr 1 jr)], [], 10000000⟩) rfl rfl hG hK ?_ ?_ ?_
  ·simp -implicitDefEqProofs (maxSteps := 2000000) (disch := first | exact tt_rfl rfl | omega | (simp only [go_sem] <;> omega) | fail) only [go_sem, norm_eq, Ok.some]
  ·rintro k v fr hv rfl
   obtain ⟨hk', rfl⟩ := pV_get hv;refine ⟨_, rfl, ?_⟩;unfold partV;have hv0 := hnom i h' _ (List.getElem_mem hk');have hm1 := List.getElem_mem hk';have hxl := partsL_len l.length (i + 1) 0 _ hm1;have hxt := partsL_lt l.length (i + 1) 0 _ hm1;have hJ1 := hJx i (by omega) _ hm1
   have hE1 := hE (partsL l.length (i + 1) 0)[k];rw [hv0] at hE1;clear hm1 hv0;generalize (partsL l.length (i + 1) 0)[k] = x at *;have nx : (natsV x).length = i + 1 := by simp [hxl]
   have hgx : ∀ q, q < i + 1 → (natsV x)[q]? = some (iv ((x.getD q 0 : Nat) : Int)) := fun q hq => by
    rw [natsV, List.getElem?_map, List.getElem?_eq_getElem (by omega), List.getD_eq_getElem?_getD, List.getElem?_eq_getElem (by omega)]; rfl
   have hgs : ∀ q, q < i + 1 → sr[x.getD q 0]? = some (.list 1 (natsV (s.getD (x.getD q 0) []))) := fun q hq => hg _ (hxt _ (by
    rw [List.getD_eq_getElem?_getD, List.getElem?_eq_getElem (by omega)]
    exact List.getElem_mem _)).2
   have hxb : ∀ q, q < i + 1 → x.getD q 0 < l.length := fun q hq => (hxt _ (by
    rw [List.getD_eq_getElem?_getD, List.getElem?_eq_getElem (by omega)]
    exact List.getElem_mem _)).2
   repeat (first | apply Wp.seqA | apply Wp.skipS | apply Wp.blockS | ((first | apply Wp.regS | apply Wp.condV | apply Wp.reg | apply Wp.condW | apply fin_ret); simp -implicitDefEqProofs (maxSteps := 2000000) (disch := first | exact tt_rfl rfl | omega | (simp only [go_sem] <;> omega) | fail) only [go_sem, nx] <;> try with_reducible rfl) | apply Wp.block | apply Wp.exitS | apply Wp.retS | apply Wp.exit | apply Wp.ret | apply Wp.skip)
   apply Wp.loopF (i + 1) (fun q => ⟨[(1, .list 2 es), (4, .ptr 256 0 0), (5, .ptr 320 0 0), (6, .ptr 384 0 0), (8, .ptr 512 0 0), (9, iv ((i : Int) + 1)), (10, .list 1 (natsV x)), (11, .slice 704 0 q), (33, .list 1 (natsV x)), (34, iv ((i + 1 : Nat) : Int)), (35, iv (q : Int))], [(256, .box [.slice 304096 0 0]), (320, .box [iv 0]), (384, .box [iv (hk : Int), .bool t, .slice 306146 0 l.length]), (512, .box [.slice 308192 0 n]), (704, .arr 1 (someV s x q)), (304096, .arr 1 []), (306146, .arr 1 sr), (308192, .arr 1 jr)], [], 10000000⟩) (fun _ => True)
   ·simp -implicitDefEqProofs (maxSteps := 2000000) (disch := first | exact tt_rfl rfl | omega | (simp only [go_sem] <;> omega) | fail) only [go_sem, norm_eq, Ok.some]
    rfl
   ·trivial
   intro q hq _;by_cases hq' : q < i + 1
   ·have a1 := hgx q hq'
    have a2 := hgs q hq';have a3 := someV_succ (s := s) (x := x) (q := q) (by omega)
    have a4 := someV_len (s := s) (x := x) (q := q) (by omega)
    have a5 := hxb q hq';rw [a3];generalize someV s x q = sv at *;generalize natsV (s.getD (x.getD q 0) []) = rq at *;generalize x.getD q 0 = xq at *;repeat (first | apply Wp.seqA | apply Wp.skipS | apply Wp.blockS | ((first | apply Wp.regS | apply Wp.condV | apply Wp.reg | apply Wp.condW | apply fin_ret); simp -implicitDefEqProofs (maxSteps := 2000000) (disch := first | exact tt_rfl rfl | omega | (simp only [go_sem] <;> omega) | fail) only [go_sem, hq', a1, a2, a4, n1, Int.ofNat_lt, a5] <;> try with_reducible rfl) | apply Wp.block | apply Wp.exitS | apply Wp.retS | apply Wp.exit | apply Wp.ret | apply Wp.skip)
    apply round_next
    ·simp -implicitDefEqProofs (maxSteps := 2000000) (disch := first | exact tt_rfl rfl | omega | (simp only [go_sem] <;> omega) | fail) only [go_sem, norm_eq, Ok.some]; with_reducible rfl
    exact ⟨hq', by simp, trivial⟩
   ·obtain rfl : q = i + 1 := by omega
    have a4 := someV_len (s := s) (x := x) (q := i + 1) (by omega)
    have a6 := someV_all (s := s) (x := x) (q := i + 1) (by omega)
    have a7 : (someN s x).length = i + 1 := by simp [hxl]
    have a8 : ((someN s x).map listV).take (i + 1) = (someN s x).map listV := List.take_of_length_le (by simp [hxl])
    have b1 : (natsV (joinN (someN s x) n)).length = n := by simp
    have b2 : (natsV (joinN (someN s x) n)).take n = natsV (joinN (someN s x) n) := List.take_of_length_le (by simp)
    have b3 := nats_plain (joinN (someN s x) n);have b4 : ((someN s x).map listV).length = i + 1 := by simp [hxl]
    rw [a6];generalize natsV (joinN (someN s x) n) = jx at *;generalize (someN s x).map listV = sx at *;clear hO hJ hG hK hX hpi hP hpa hJx hE hg hsg hr24 hrow hgx hgs hxb hxt hnom hno hyes hjn a4 a6 a7;repeat (first | apply Wp.seqA | apply Wp.skipS | apply Wp.blockS | ((first | apply Wp.regS | apply Wp.condV | apply Wp.reg | apply Wp.condW | apply fin_ret); simp -implicitDefEqProofs (maxSteps := 2000000) (disch := first | exact tt_rfl rfl | omega | (simp only [go_sem] <;> omega) | fail) only [go_sem, Int.lt_irrefl, b4, a8, hJ1, hE1, b1, b2, b3, n2, t2, P2] <;> try with_reducible rfl) | apply Wp.block | apply Wp.exitS | apply Wp.retS | apply Wp.exit | apply Wp.ret | apply Wp.skip)
    apply block_norm;apply round_next
    ·simp -implicitDefEqProofs (maxSteps := 2000000) (disch := first | exact tt_rfl rfl | omega | (simp only [go_sem] <;> omega) | fail) only [go_sem, norm_eq, Ok.some]; with_reducible rfl
    trivial
  ·rintro fr rfl
   apply block_norm;repeat (first | apply Wp.seqA | apply Wp.skipS | apply Wp.blockS | ((first | apply Wp.regS | apply Wp.condV | apply Wp.reg | apply Wp.condW | apply fin_ret); simp -implicitDefEqProofs (maxSteps := 2000000) (disch := first | exact tt_rfl rfl | omega | (simp only [go_sem] <;> omega) | fail) only [go_sem] <;> try with_reducible rfl) | apply Wp.block | apply Wp.exitS | apply Wp.retS | apply Wp.exit | apply Wp.ret | apply Wp.skip)
   apply round_next
   ·simp -implicitDefEqProofs (maxSteps := 2000000) (disch := first | exact tt_rfl rfl | omega | (simp only [go_sem] <;> omega) | fail) only [go_sem, norm_eq, Ok.some]; with_reducible rfl
   exact ⟨h', by simp, trivial⟩
 ·obtain rfl : i = M := by omega
  repeat (first | apply Wp.seqA | apply Wp.skipS | apply Wp.blockS | ((first | apply Wp.regS | apply Wp.condV | apply Wp.reg | apply Wp.condW | apply fin_ret); simp -implicitDefEqProofs (maxSteps := 2000000) (disch := first | exact tt_rfl rfl | omega | (simp only [go_sem] <;> omega) | fail) only [go_sem, hpi, n3] <;> try with_reducible rfl) | apply Wp.block | apply Wp.exitS | apply Wp.retS | apply Wp.exit | apply Wp.ret | apply Wp.skip)
  refine Wp.rangeX (fun _ fr => fr = ⟨[(1, .list 2 es), (4, .ptr 256 0 0), (5, .ptr 320 0 0), (6, .ptr 384 0 0), (8, .ptr 512 0 0), (9, iv ((i : Int) + 1))], [(256, .box [.slice 304096 0 0]), (320, .box [iv 0]), (384, .box [iv (hk : Int), .bool t, .slice 306146 0 l.length]), (512, .box [.slice 308192 0 n]), (304096, .arr 1 []), (306146, .arr 1 sr), (308192, .arr 1 jr)], [], 10000000⟩) i0 _ rfl rfl hG (by rw [pV, List.getElem?_map, List.getElem?_eq_getElem hi0]; rfl) (hX i0 hi0) ?_ ?_ ?_
  ·simp -implicitDefEqProofs (maxSteps := 2000000) (disch := first | exact tt_rfl rfl | omega | (simp only [go_sem] <;> omega) | fail) only [go_sem, norm_eq, Ok.some]
  ·rintro k v fr hki hv rfl
   obtain ⟨hk', rfl⟩ := pV_get hv;refine ⟨_, rfl, ?_⟩;unfold partV;have hv0 := hno k hk' hki;have hm1 := List.getElem_mem hk';have hxl := partsL_len l.length (i + 1) 0 _ hm1;have hxt := partsL_lt l.length (i + 1) 0 _ hm1;have hJ1 := hJx i (by omega) _ hm1
   have hE1 := hE (partsL l.length (i + 1) 0)[k];rw [hv0] at hE1;clear hm1 hv0 hnom hno hyes;generalize (partsL l.length (i + 1) 0)[k] = x at *;have nx : (natsV x).length = i + 1 := by simp [hxl]
   have hgx : ∀ q, q < i + 1 → (natsV x)[q]? = some (iv ((x.getD q 0 : Nat) : Int)) := fun q hq => by
    rw [natsV, List.getElem?_map, List.getElem?_eq_getElem (by omega), List.getD_eq_getElem?_getD, List.getElem?_eq_getElem (by omega)]; rfl
   have hgs : ∀ q, q < i + 1 → sr[x.getD q 0]? = some (.list 1 (natsV (s.getD (x.getD q 0) []))) := fun q hq => hg _ (hxt _ (by
    rw [List.getD_eq_getElem?_getD, List.getElem?_eq_getElem (by omega)]
    exact List.getElem_mem _)).2
   have hxb : ∀ q, q < i + 1 → x.getD q 0 < l.length := fun q hq => (hxt _ (by
    rw [List.getD_eq_getElem?_getD, List.getElem?_eq_getElem (by omega)]
    exact List.getElem_mem _)).2
   repeat (first | apply Wp.seqA | apply Wp.skipS | apply Wp.blockS | ((first | apply Wp.regS | apply Wp.condV | apply Wp.reg | apply Wp.condW | apply fin_ret); simp -implicitDefEqProofs (maxSteps := 2000000) (disch := first | exact tt_rfl rfl | omega | (simp only [go_sem] <;> omega) | fail) only [go_sem, nx] <;> try with_reducible rfl) | apply Wp.block | apply Wp.exitS | apply Wp.retS | apply Wp.exit | apply Wp.ret | apply Wp.skip)
   apply Wp.loopF (i + 1) (fun q => ⟨[(1, .list 2 es), (4, .ptr 256 0 0), (5, .ptr 320 0 0), (6, .ptr 384 0 0), (8, .ptr 512 0 0), (9, iv ((i : Int) + 1)), (10, .list 1 (natsV x)), (11, .slice 704 0 q), (33, .list 1 (natsV x)), (34, iv ((i + 1 : Nat) : Int)), (35, iv (q : Int))], [(256, .box [.slice 304096 0 0]), (320, .box [iv 0]), (384, .box [iv (hk : Int), .bool t, .slice 306146 0 l.length]), (512, .box [.slice 308192 0 n]), (704, .arr 1 (someV s x q)), (304096, .arr 1 []), (306146, .arr 1 sr), (308192, .arr 1 jr)], [], 10000000⟩) (fun _ => True)
   ·simp -implicitDefEqProofs (maxSteps := 2000000) (disch := first | exact tt_rfl rfl | omega | (simp only [go_sem] <;> omega) | fail) only [go_sem, norm_eq, Ok.some]
    rfl
   ·trivial
   intro q hq _;by_cases hq' : q < i + 1
   ·have a1 := hgx q hq'
    have a2 := hgs q hq';have a3 := someV_succ (s := s) (x := x) (q := q) (by omega)
    have a4 := someV_len (s := s) (x := x) (q := q) (by omega)
    have a5 := hxb q hq';rw [a3];generalize someV s x q = sv at *;generalize natsV (s.getD (x.getD q 0) []) = rq at *;generalize x.getD q 0 = xq at *;repeat (first | apply Wp.seqA | apply Wp.skipS | apply Wp.blockS | ((first | apply Wp.regS | apply Wp.condV | apply Wp.reg | apply Wp.condW | apply fin_ret); simp -implicitDefEqProofs (maxSteps := 2000000) (disch := first | exact tt_rfl rfl | omega | (simp only [go_sem] <;> omega) | fail) only [go_sem, hq', a1, a2, a4, n1, Int.ofNat_lt, a5] <;> try with_reducible rfl) | apply Wp.block | apply Wp.exitS | apply Wp.retS | apply Wp.exit | apply Wp.ret | apply Wp.skip)
    apply round_next
    ·simp -implicitDefEqProofs (maxSteps := 2000000) (disch := first | exact tt_rfl rfl | omega | (simp only [go_sem] <;> omega) | fail) only [go_sem, norm_eq, Ok.some]; with_reducible rfl
    exact ⟨hq', by simp, trivial⟩
   ·obtain rfl : q = i + 1 := by omega
    have a4 := someV_len (s := s) (x := x) (q := i + 1) (by omega)
    have a6 := someV_all (s := s) (x := x) (q := i + 1) (by omega)
    have a7 : (someN s x).length = i + 1 := by simp [hxl]
    have a8 : ((someN s x).map listV).take (i + 1) = (someN s x).map listV := List.take_of_length_le (by simp [hxl])
    have b1 : (natsV (joinN (someN s x) n)).length = n := by simp
    have b2 : (natsV (joinN (someN s x) n)).take n = natsV (joinN (someN s x) n) := List.take_of_length_le (by simp)
    have b3 := nats_plain (joinN (someN s x) n);have b4 : ((someN s x).map listV).length = i + 1 := by simp [hxl]
    rw [a6];generalize natsV (joinN (someN s x) n) = jx at *;generalize (someN s x).map listV = sx at *;clear hO hJ hG hK hX hpi hP hpa hJx hE hg hsg hr24 hrow hgx hgs hxb hxt hjn a4 a6 a7;repeat (first | apply Wp.seqA | apply Wp.skipS | apply Wp.blockS | ((first | apply Wp.regS | apply Wp.condV | apply Wp.reg | apply Wp.condW | apply fin_ret); simp -implicitDefEqProofs (maxSteps := 2000000) (disch := first | exact tt_rfl rfl | omega | (simp only [go_sem] <;> omega) | fail) only [go_sem, Int.lt_irrefl, b4, a8, hJ1, hE1, b1, b2, b3, n2, t2, P2] <;> try with_reducible rfl) | apply Wp.block | apply Wp.exitS | apply Wp.retS | apply Wp.exit | apply Wp.ret | apply Wp.skip)
    apply block_norm;apply round_next
    ·simp -implicitDefEqProofs (maxSteps := 2000000) (disch := first | exact tt_rfl rfl | omega | (simp only [go_sem] <;> omega) | fail) only [go_sem, norm_eq, Ok.some]; with_reducible rfl
    trivial
  ·rintro fr rfl
   refine ⟨_, rfl, ?_⟩;unfold partV;have hv0 := hyes;have hm1 := List.getElem_mem hi0;have hxl := partsL_len l.length (i + 1) 0 _ hm1;have hxt := partsL_lt l.length (i + 1) 0 _ hm1;have hJ1 := hJx i (by omega) _ hm1
   have hE1 := hE (partsL l.length (i + 1) 0)[i0];rw [hv0] at hE1;clear hm1 hv0 hno hnom hyes;generalize (partsL l.length (i + 1) 0)[i0] = x at *;have nx : (natsV x).length = i + 1 := by simp [hxl]
   have hgx : ∀ q, q < i + 1 → (natsV x)[q]? = some (iv ((x.getD q 0 : Nat) : Int)) := fun q hq => by
    rw [natsV, List.getElem?_map, List.getElem?_eq_getElem (by omega), List.getD_eq_getElem?_getD, List.getElem?_eq_getElem (by omega)]; rfl
   have hgs : ∀ q, q < i + 1 → sr[x.getD q 0]? = some (.list 1 (natsV (s.getD (x.getD q 0) []))) := fun q hq => hg _ (hxt _ (by
    rw [List.getD_eq_getElem?_getD, List.getElem?_eq_getElem (by omega)]
    exact List.getElem_mem _)).2
   have hxb : ∀ q, q < i + 1 → x.getD q 0 < l.length := fun q hq => (hxt _ (by
    rw [List.getD_eq_getElem?_getD, List.getElem?_eq_getElem (by omega)]
    exact List.getElem_mem _)).2
   repeat (first | apply Wp.seqA | apply Wp.skipS | apply Wp.blockS | ((first | apply Wp.regS | apply Wp.condV | apply Wp.reg | apply Wp.condW | apply fin_ret); simp -implicitDefEqProofs (maxSteps := 2000000) (disch := first | exact tt_rfl rfl | omega | (simp only [go_sem] <;> omega) | fail) only [go_sem, nx] <;> try with_reducible rfl) | apply Wp.block | apply Wp.exitS | apply Wp.retS | apply Wp.exit | apply Wp.ret | apply Wp.skip)
   apply Wp.loopF (i + 1) (fun q => ⟨[(1, .list 2 es), (4, .ptr 256 0 0), (5, .ptr 320 0 0), (6, .ptr 384 0 0), (8, .ptr 512 0 0), (9, iv ((i : Int) + 1)), (10, .list 1 (natsV x)), (11, .slice 704 0 q), (33, .list 1 (natsV x)), (34, iv ((i + 1 : Nat) : Int)), (35, iv (q : Int))], [(256, .box [.slice 304096 0 0]), (320, .box [iv 0]), (384, .box [iv (hk : Int), .bool t, .slice 306146 0 l.length]), (512, .box [.slice 308192 0 n]), (704, .arr 1 (someV s x q)), (304096, .arr 1 []), (306146, .arr 1 sr), (308192, .arr 1 jr)], [], 10000000⟩) (fun _ => True)
   ·simp -implicitDefEqProofs (maxSteps := 2000000) (disch := first | exact tt_rfl rfl | omega | (simp only [go_sem] <;> omega) | fail) only [go_sem, norm_eq, Ok.some]
    rfl
   ·trivial
   intro q hq _;by_cases hq' : q < i + 1
   ·have a1 := hgx q hq'
    have a2 := hgs q hq';have a3 := someV_succ (s := s) (x := x) (q := q) (by omega)
    have a4 := someV_len (s := s) (x := x) (q := q) (by omega)
    have a5 := hxb q hq';rw [a3];generalize someV s x q = sv at *;generalize natsV (s.getD (x.getD q 0) []) = rq at *;generalize x.getD q 0 = xq at *;repeat (first | apply Wp.seqA | apply Wp.skipS | apply Wp.blockS | ((first | apply Wp.regS | apply Wp.condV | apply Wp.reg | apply Wp.condW | apply fin_ret); simp -implicitDefEqProofs (maxSteps := 2000000) (disch := first | exact tt_rfl rfl | omega | (simp only [go_sem] <;> omega) | fail) only [go_sem, hq', a1, a2, a4, n1, Int.ofNat_lt, a5] <;> try with_reducible rfl) | apply Wp.block | apply Wp.exitS | apply Wp.retS | apply Wp.exit | apply Wp.ret | apply Wp.skip)
    apply round_next
    ·simp -implicitDefEqProofs (maxSteps := 2000000) (disch := first | exact tt_rfl rfl | omega | (simp only [go_sem] <;> omega) | fail) only [go_sem, norm_eq, Ok.some]; with_reducible rfl
    exact ⟨hq', by simp, trivial⟩
   ·obtain rfl : q = i + 1 := by omega
    have a4 := someV_len (s := s) (x := x) (q := i + 1) (by omega)
    have a6 := someV_all (s := s) (x := x) (q := i + 1) (by omega)
    have a7 : (someN s x).length = i + 1 := by simp [hxl]
    have a8 : ((someN s x).map listV).take (i + 1) = (someN s x).map listV := List.take_of_length_le (by simp [hxl])
    have b1 : (natsV (joinN (someN s x) n)).length = n := by simp
    have b2 : (natsV (joinN (someN s x) n)).take n = natsV (joinN (someN s x) n) := List.take_of_length_le (by simp)
    have b3 := nats_plain (joinN (someN s x) n);have b4 : ((someN s x).map listV).length = i + 1 := by simp [hxl]
    rw [a6];generalize natsV (joinN (someN s x) n) = jx at *;generalize (someN s x).map listV = sx at *;clear hO hJ hG hK hX hpi hP hpa hJx hE hg hsg hr24 hrow hgx hgs hxb hxt hjn a4 a6 a7;repeat (first | apply Wp.seqA | apply Wp.skipS | apply Wp.blockS | ((first | apply Wp.regS | apply Wp.condV | apply Wp.reg | apply Wp.condW | apply fin_ret); simp -implicitDefEqProofs (maxSteps := 2000000) (disch := first | exact tt_rfl rfl | omega | (simp only [go_sem] <;> omega) | fail) only [go_sem, Int.lt_irrefl, b4, a8, hJ1, hE1, b1, b2, b3, n2, t2, P2] <;> try with_reducible rfl) | apply Wp.block | apply Wp.exitS | apply Wp.retS | apply Wp.exit | apply Wp.ret | apply Wp.skip)
end Go.Abs
set_option linter.all false
namespace Go.Abs
set_option maxRecDepth 10000
set_option maxHeartbeats 4000000
def setL (L b : Nat) : List Nat := (List.range L).filter fun i => b.testBit i
def lexL : List Nat → List Nat → Bool
 | a :: l, b :: m => if a = b then lexL l m else decide (a < b)
 | _, _ => false
def lessL (a b : List Nat) : Bool := if a.length = b.length then lexL a b else decide (a.length < b.length)
def Asc (l : List Nat) : Prop := l.Pairwise (· < ·)
theorem asc_eq {a b : List Nat} (ha : Asc a) (hb : Asc b) (h : ∀ x, x ∈ a ↔ x ∈ b) : a = b := by
 induction a generalizing b with
 | nil =>
  cases b with
  | nil => rfl
  | cons y b => exact absurd ((h y).2 (List.mem_cons_self ..)) (by simp)
 | cons x a ih =>
  cases b with
  | nil => exact absurd ((h x).1 (List.mem_cons_self ..)) (by simp)
  | cons y b =>
   obtain ⟨ha1, ha2⟩ := List.pairwise_cons.1 ha;obtain ⟨hb1, hb2⟩ := List.pairwise_cons.1 hb;have hxy : x = y := by
    rcases List.mem_cons.1 ((h x).1 (List.mem_cons_self ..)) with e | e
    ·exact e
    ·rcases List.mem_cons.1 ((h y).2 (List.mem_cons_self ..)) with e' | e'
     ·exact e'.symm
     ·have := ha1 y e'; have := hb1 x e; omega
   subst hxy;rw [ih ha2 hb2 fun z => ?_]
   constructor
   ·intro hz
    rcases List.mem_cons.1 ((h z).1 (List.mem_cons_of_mem _ hz)) with e | e
    ·subst e; exact absurd (ha1 z hz) (by omega)
    ·exact e
   ·intro hz
    rcases List.mem_cons.1 ((h z).2 (List.mem_cons_of_mem _ hz)) with e | e
    ·subst e; exact absurd (hb1 z hz) (by omega)
    ·exact e
theorem asc_range (n : Nat) : Asc (List.range n) := List.pairwise_lt_range
theorem setL_asc (L b : Nat) : Asc (setL L b) := (asc_range L).filter _
theorem setL_lt {L b x : Nat} (h : x ∈ setL L b) : x < L := List.mem_range.1 (List.mem_filter.1 h).1
theorem bits_of (L : Nat) : ∀ x : List Nat, (∀ k ∈ x, k < L) → ∃ b, b < 2 ^ L ∧ ∀ i, b.testBit i = decide (i ∈ x)
 | [], _ => ⟨0, Nat.two_pow_pos L, fun i => by simp⟩
 | k :: x, h => by
  obtain ⟨b, hb, hi⟩ := bits_of L x fun j hj => h j (List.mem_cons_of_mem _ hj)
  refine ⟨b ||| 2 ^ k, Nat.or_lt_two_pow hb (Nat.pow_lt_pow_right (by omega) (h k (List.mem_cons_self ..))), fun i => ?_⟩
  rw [Nat.testBit_or, hi, Nat.testBit_two_pow];by_cases e : i = k
  ·subst e; simp
  ·simp [e, Ne.symm e]
theorem setL_of {L : Nat} {x : List Nat} (hx : Asc x) (hl : ∀ k ∈ x, k < L) : ∃ b, b < 2 ^ L ∧ setL L b = x := by
 obtain ⟨b, hb, hi⟩ := bits_of L x hl;refine ⟨b, hb, asc_eq (setL_asc L b) hx fun i => ?_⟩
 unfold setL;rw [List.mem_filter, List.mem_range, hi];simp only [decide_eq_true_eq];exact ⟨fun h => h.2, fun h => ⟨hl i h, h⟩⟩
theorem partsL_asc (most : Nat) : ∀ (m a : Nat), ∀ x ∈ partsL most m a, Asc x
 | 0, a, x, h => by simp [partsL] at h; subst h; exact List.Pairwise.nil
 | m + 1, a, x, h => by
  simp only [partsL, List.mem_flatMap, List.mem_map, List.mem_range] at h;obtain ⟨i, hi, y, hy, rfl⟩ := h;refine List.pairwise_cons.2 ⟨fun k hk => ?_, partsL_asc most m _ y hy⟩
  have := partsL_lt most m _ y hy k hk;omega
theorem partsL_mem (most : Nat) : ∀ (x : List Nat) (a : Nat), Asc x → (∀ k ∈ x, a ≤ k ∧ k < most) → x ∈ partsL most x.length a
 | [], a, _, _ => by simp [partsL]
 | k :: x, a, h, hk => by
  obtain ⟨h1, h2⟩ := List.pairwise_cons.1 h;have hka := hk k (List.mem_cons_self ..);simp only [List.length_cons, partsL, List.mem_flatMap, List.mem_map, List.mem_range];refine ⟨k - a, by omega, x, ?_, by rw [show a + (k - a) = k by omega]⟩
  rw [show a + (k - a) + 1 = k + 1 by omega]
  exact partsL_mem most x (k + 1) h2 fun j hj => ⟨by have := h1 j hj; omega, (hk j (List.mem_cons_of_mem _ hj)).2⟩
theorem partsL_lex (most : Nat) : ∀ (m a : Nat), (partsL most m a).Pairwise fun x y => lexL x y = true
 | 0, a => by simp [partsL]
 | m + 1, a => by
  simp only [partsL];rw [List.pairwise_flatMap];refine ⟨fun i _ => ?_, ?_⟩
  ·rw [List.pairwise_map]
   exact (partsL_lex most m _).imp fun h => by simpa [lexL] using h
  ·refine (asc_range _).imp fun {i j} hij x hx y hy => ?_
   obtain ⟨x', _, rfl⟩ := List.mem_map.1 hx;obtain ⟨y', _, rfl⟩ := List.mem_map.1 hy;simp only [lexL];rw [if_neg (by omega)]
   exact decide_eq_true (by omega)
def bestR (s : List (List Nat)) (n L : Nat) : Nat → List Nat
 | 0 => List.range L
 | k + 1 => if lessL (setL L (k + 1)) (bestR s n L k) = true ∧ isN s n (setL L (k + 1)) = true then setL L (k + 1) else bestR s n L k
theorem bestR_ok (s : List (List Nat)) (n L : Nat) (hall : isN s n (List.range L) = true) : ∀ k, Asc (bestR s n L k) ∧ (∀ x ∈ bestR s n L k, x < L) ∧ isN s n (bestR s n L k) = true
 | 0 => ⟨asc_range L, fun x hx => List.mem_range.1 hx, hall⟩
 | k + 1 => by
  unfold bestR;split
  ·rename_i h
   exact ⟨setL_asc _ _, fun x hx => setL_lt hx, h.2⟩
  ·exact bestR_ok s n L hall k
theorem bestR_len (s : List (List Nat)) (n L : Nat) : ∀ k, (bestR s n L k).length ≤ L
 | 0 => by simp [bestR]
 | k + 1 => by
  unfold bestR;split
  ·exact Nat.le_trans (List.length_filter_le _ _) (by simp)
  ·exact bestR_len s n L k
theorem lex_trans : ∀ a b c : List Nat, lexL a b = true → lexL b c = true → lexL a c = true
 | [], b, c, h, _ => by simp [lexL] at h
 | x :: a, [], c, h, _ => by simp [lexL] at h
 | x :: a, y :: b, [], _, h => by simp [lexL] at h
 | x :: a, y :: b, z :: c, h1, h2 => by
  simp only [lexL] at h1 h2 ⊢;by_cases e1 : x = y
  ·subst e1
   rw [if_pos rfl] at h1;by_cases e2 : x = z
   ·subst e2
    rw [if_pos rfl] at h2 ⊢;exact lex_trans a b c h1 h2
   ·rw [if_neg e2] at h2 ⊢
    exact h2
  ·rw [if_neg e1] at h1
   have h1 := of_decide_eq_true h1;by_cases e2 : y = z
   ·subst e2
    rw [if_neg e1];exact decide_eq_true h1
   ·rw [if_neg e2] at h2
    have h2 := of_decide_eq_true h2;rw [if_neg (by omega)]
    exact decide_eq_true (by omega)
theorem lex_irrefl : ∀ a : List Nat, lexL a a = false
 | [] => rfl
 | x :: a => by simp only [lexL, if_true]; exact lex_irrefl a
theorem less_trans {a b c : List Nat} (h1 : lessL a b = true) (h2 : lessL b c = true) : lessL a c = true := by
 unfold lessL at *;split at h1
 ·rename_i e1
  split at h2
  ·rename_i e2
   rw [if_pos (by omega)]
   exact lex_trans _ _ _ h1 h2
  ·have := of_decide_eq_true h2
   rw [if_neg (by omega)]
   exact decide_eq_true (by omega)
 ·have h1 := of_decide_eq_true h1
  split at h2
  ·rw [if_neg (by omega)]
   exact decide_eq_true (by omega)
  ·have := of_decide_eq_true h2
   rw [if_neg (by omega)]
   exact decide_eq_true (by omega)
theorem less_irrefl (a : List Nat) : lessL a a = false := by
 unfold lessL; rw [if_pos rfl]; exact lex_irrefl a
theorem bestR_min (s : List (List Nat)) (n L : Nat) : ∀ k j, 1 ≤ j → j ≤ k → isN s n (setL L j) = true → lessL (setL L j) (bestR s n L k) = false
 | 0, j, h1, h2, _ => by omega
 | k + 1, j, h1, h2, h3 => by
  have ih := bestR_min s n L k j h1;unfold bestR;split
  ·rename_i h
   by_cases e : j = k + 1
   ·subst e; exact less_irrefl _
   ·cases hc : lessL (setL L j) (setL L (k + 1)) with
    | false => rfl
    | true =>
     have := less_trans hc h.1;rw [ih (by omega) h3] at this
     cases this
  ·rename_i h
   by_cases e : j = k + 1
   ·subst e
    cases hc : lessL (setL L (k + 1)) (bestR s n L k) with
    | false => rfl
    | true => exact absurd ⟨hc, h3⟩ h
   ·exact ih (by omega) h3
theorem setL_pos {L b : Nat} (h0 : b ≠ 0) (h : b < 2 ^ L) : 1 ≤ (setL L b).length := by
 obtain ⟨i, hi⟩ := Nat.exists_testBit_of_ne_zero h0;have hiL : i < L := by
  rcases Nat.lt_or_ge i L with h' | h'
  ·exact h'
  ·have := Nat.testBit_lt_two_pow (Nat.lt_of_lt_of_le h (Nat.pow_le_pow_right (by omega) h'))
   rw [this] at hi; cases hi
 have : i ∈ setL L b := List.mem_filter.2 ⟨List.mem_range.2 hiL, hi⟩;exact List.length_pos_of_mem this
theorem bestR_pos (s : List (List Nat)) (n L : Nat) (hL : 1 ≤ L) : ∀ k, k < 2 ^ L → 1 ≤ (bestR s n L k).length
 | 0, _ => by simpa [bestR] using hL
 | k + 1, h => by
  unfold bestR;split
  ·exact setL_pos (by omega) h
  ·exact bestR_pos s n L hL k (by omega)
theorem needed_eq (s : List (List Nat)) (n L : Nat) (hL : 1 ≤ L) (hall : isN s n (List.range L) = true) (M : Nat) (i0 : Nat) (hi0 : i0 < (partsL L (M + 1) 0).length) (hyes : isN s n (partsL L (M + 1) 0)[i0] = true) (hno : ∀ i (hi : i < (partsL L (M + 1) 0).length), i < i0 → isN s n (partsL L (M + 1) 0)[i] = false) (hnom : ∀ k, k < M → ∀ x ∈ partsL L (k + 1) 0, isN s n x = false) :
  bestR s n L (2 ^ L - 1) = (partsL L (M + 1) 0)[i0] := by
 have hp := Nat.two_pow_pos L;obtain ⟨b1, b2, b3⟩ := bestR_ok s n L hall (2 ^ L - 1);have b4 := bestR_pos s n L hL (2 ^ L - 1) (by omega)
 have hm0 := List.getElem_mem hi0;have hx1 := partsL_len L (M + 1) 0 _ hm0;obtain ⟨b, hb, hbe⟩ := setL_of (L := L) (partsL_asc L (M + 1) 0 _ hm0) fun k hk => (partsL_lt L (M + 1) 0 _ hm0 k hk).2
 have hb0 : b ≠ 0 := by
  rintro rfl;have e : setL L 0 = [] := by simp [setL]
  rw [e] at hbe;rw [← hbe] at hx1;cases hx1
 have hmin := bestR_min s n L (2 ^ L - 1) b (by omega) (by omega) (by rw [hbe]; exact hyes)
 rw [hbe] at hmin;have hin := partsL_mem L (bestR s n L (2 ^ L - 1)) 0 b1 fun k hk => ⟨Nat.zero_le _, b2 k hk⟩
 generalize bestR s n L (2 ^ L - 1) = z at *;obtain ⟨q, hq⟩ : ∃ q, z.length = q + 1 := ⟨z.length - 1, by omega⟩
 rw [hq] at hin;rcases Nat.lt_trichotomy q M with h | h | h
 ·rw [hnom q h z hin] at b3; cases b3
 ·subst h
  obtain ⟨j, hj, hje⟩ := List.getElem_of_mem hin;rcases Nat.lt_trichotomy j i0 with h | h | h
  ·have := hno j hj h
   rw [hje, b3] at this; cases this
  ·subst h; exact hje.symm
  ·have hl := List.pairwise_iff_getElem.1 (partsL_lex L (q + 1) 0) i0 j hi0 hj h
   rw [hje] at hl;unfold lessL at hmin;rw [if_pos (by omega), hl] at hmin
   cases hmin
 ·unfold lessL at hmin
  rw [if_neg (by omega)] at hmin
  exact absurd (of_decide_eq_false hmin) (by omega)
theorem first_of {α : Type} (p : α → Bool) : ∀ l : List α, (∃ x ∈ l, p x = true) → ∃ i, ∃ h : i < l.length, p l[i] = true ∧ ∀ j (hj : j < l.length), j < i → p l[j] = false
 | [], h => by obtain ⟨x, hx, _⟩ := h; cases hx
 | a :: l, h => by
  by_cases e : p a = true
  ·exact ⟨0, by simp, e, fun j _ hj => by omega⟩
  ·obtain ⟨x, hx, hp⟩ := h
   rcases List.mem_cons.1 hx with rfl | hx
   ·exact absurd hp e
   ·obtain ⟨i, hi, h1, h2⟩ := first_of p l ⟨x, hx, hp⟩
    refine ⟨i + 1, by simpa using hi, by simpa using h1, fun j hj hji => ?_⟩
    cases j with
    | zero => simpa using e
    | succ j => exact h2 j (by simpa using hj) (by omega)
theorem least_of (p : Nat → Prop) [DecidablePred p] : ∀ N, p N → ∃ M, M ≤ N ∧ p M ∧ ∀ k, k < M → ¬ p k
 | 0, h => ⟨0, Nat.le_refl _, h, fun k hk => by omega⟩
 | N + 1, h => by
  by_cases e : ∃ k, k ≤ N ∧ p k
  ·obtain ⟨k, hk, hpk⟩ := e
   by_cases e2 : p N
   ·obtain ⟨M, h1, h2, h3⟩ := least_of p N e2
    exact ⟨M, by omega, h2, h3⟩
   ·have key : ∀ m k, k ≤ m → p k → ∃ M, M ≤ k ∧ p M ∧ ∀ j, j < M → ¬ p j := by
     intro m;induction m with
     | zero =>
      intro k hk h;obtain rfl : k = 0 := by omega
      exact ⟨0, Nat.le_refl _, h, fun j hj => by omega⟩
     | succ m ih =>
      intro k hk h;by_cases e : ∃ j, j < k ∧ p j
      ·obtain ⟨j, hj, hpj⟩ := e
       obtain ⟨M, h1, h2, h3⟩ := ih j (by omega) hpj
       exact ⟨M, by omega, h2, h3⟩
      ·exact ⟨k, Nat.le_refl _, h, fun j hj hpj => e ⟨j, hj, hpj⟩⟩
    obtain ⟨M, h1, h2, h3⟩ := key N k hk hpk;exact ⟨M, by omega, h2, h3⟩
  ·exact ⟨N + 1, Nat.le_refl _, h, fun k hk hpk => e ⟨k, by omega, hpk⟩⟩
theorem needed_ex (s : List (List Nat)) (n L : Nat) (hL : 1 ≤ L) (hall : isN s n (List.range L) = true) : ∃ M, M < L ∧ ∃ i0, ∃ hi0 : i0 < (partsL L (M + 1) 0).length, isN s n (partsL L (M + 1) 0)[i0] = true ∧ (∀ i (hi : i < (partsL L (M + 1) 0).length), i < i0 → isN s n (partsL L (M + 1) 0)[i] = false) ∧ ∀ k, k < M → ∀ x ∈ partsL L (k + 1) 0, isN s n x = false := by
 have hr : List.range L ∈ partsL L L 0 := by
  have := partsL_mem L (List.range L) 0 (asc_range L) fun k hk => ⟨Nat.zero_le _, List.mem_range.1 hk⟩
  rwa [List.length_range] at this
 obtain ⟨M, h1, h2, h3⟩ := least_of (fun M => ((partsL L (M + 1) 0).any (isN s n)) = true) (L - 1) (by
  rw [show L - 1 + 1 = L by omega]
  exact List.any_eq_true.2 ⟨_, hr, hall⟩)
 obtain ⟨i0, hi0, h4, h5⟩ := first_of (isN s n) _ (List.any_eq_true.1 h2);refine ⟨M, by omega, i0, hi0, h4, h5, fun k hk x hx => ?_⟩
 cases hc : isN s n x with
 | false => rfl
 | true => exact absurd (List.any_eq_true.2 ⟨x, hx, hc⟩) (h3 k hk)
theorem isN_all (s : List (List Nat)) (n : Nat) : isN s n (List.range s.length) = true := by
 unfold isN someN;have e : (List.range s.length).map (fun k => s.getD k []) = s := by
  refine List.ext_getElem (by simp) fun i h1 h2 => ?_
  rw [List.getElem_map, List.getElem_range, List.getD_eq_getElem?_getD, List.getElem?_eq_getElem h2]; rfl
 rw [e];exact decide_eq_true rfl
end Go.Abs
set_option linter.all false
namespace Go.Abs
set_option maxRecDepth 10000
set_option maxHeartbeats 4000000
def subD (l : List DesN) (x : List Nat) : List DesN := x.map fun k => l.getD k ⟨0, []⟩
theorem subD_mem {l : List DesN} {x : List Nat} (hx : ∀ k ∈ x, k < l.length) : ∀ d ∈ subD l x, d ∈ l := fun d hd => by
 obtain ⟨k, hk, rfl⟩ := List.mem_map.1 hd;rw [List.getD_eq_getElem?_getD, List.getElem?_eq_getElem (hx k hk)];exact List.getElem_mem _
theorem SetsOk.sub {l : List DesN} {hk n : Nat} (h : SetsOk l hk n) {x : List Nat} (h1 : 1 ≤ x.length) (h10 : x.length ≤ 10) (hx : ∀ k ∈ x, k < l.length) : SetsOk (subD l x) hk n :=
 ⟨by simpa [subD] using h1, by simpa [subD] using h10, fun d hd => h.ok d (subD_mem hx d hd), fun d hd => h.hk d (subD_mem hx d hd), fun d hd => h.rows d (subD_mem hx d hd)⟩
theorem setsN_sub {l : List DesN} {x : List Nat} (t : Bool) (hk : Nat) (hx : ∀ k ∈ x, k < l.length) : setsN t hk (subD l x) = someN (setsN t hk l) x := by
 unfold setsN subD someN;rw [List.map_map];refine List.map_congr_left fun k hk' => ?_
 have hkl := hx k hk';show turnL t hk (l.getD k ⟨0, []⟩).rows = (l.map fun d => turnL t hk d.rows).getD k []
 rw [List.getD_eq_getElem?_getD, List.getD_eq_getElem?_getD, List.getElem?_map, List.getElem?_eq_getElem hkl]; rfl
theorem setL_succ (q b : Nat) : setL (q + 1) b = setL q b ++ if b.testBit q then [q] else [] := by
 unfold setL;rw [List.range_succ, List.filter_append, List.filter_cons, List.filter_nil]
theorem subD_append (l : List DesN) (x y : List Nat) : subD l (x ++ y) = subD l x ++ subD l y := by simp [subD]
@[simp] theorem subD_len (l : List DesN) (x : List Nat) : (subD l x).length = x.length := by simp [subD]
end Go.Abs
