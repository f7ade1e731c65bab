/-
 Chapter 12: all lists of so many numbers. No condition beyond those that each theorem names.
-/
import Derived.Test.YtodpkfillohplaaDoorX10
set_option linter.all false
namespace Go.Abs
set_option maxRecDepth 10000
set_option maxHeartbeats 4000000

/-- a loop over a function that is left in round i0 -/
theorem Wp.rangeX {call : CallF} {fr : Fr} {Q : AEx → Fr → Prop} {f : AOpd} {ps keep : List Nat} {a b : ACode} {g : Nat} {cap vs : List AV} {ids : List Nat} {r1 r2 : AV} {k : Option Nat} {V : List (List AV)} (S : Nat → Fr → Prop) (i0 : Nat) (x0 : List AV)
  (hf : getO (fun t => lk t fr.tm) f = some (.func g cap)) (hz : frzL (frz (fun i => lk i fr.rows) frzDepth) cap = some (vs, ids))
  (h1 : call g (.ylog none [] :: vs) = some (r1, [.ylog k V])) (hv : V[i0]? = some x0) (h2 : call g (.ylog (some 1) (V.take (i0 + 1)) :: vs) = some (r2, [.ylog (some 1) []]))
  (h0 : Ok (norm keep ⟨fr.tm, updRows (gone ids) fr.rows, fr.lent, fr.next⟩) (S 0))
  (hs : ∀ i x fr, i < i0 → V[i]? = some x → S i fr → ∃ tm, setPs ps x fr.tm = some tm ∧ Wp call a ⟨tm, fr.rows, fr.lent, fr.next⟩ (bodyQ call b (roundQ keep (S (i + 1)) fun _ _ => False)))
  (hx : ∀ fr, S i0 fr → ∃ tm, setPs ps x0 fr.tm = some tm ∧ Wp call a ⟨tm, fr.rows, fr.lent, fr.next⟩ (bodyQ call b (roundQ keep (fun _ => False) fun ex fr => Q ex ⟨keepT keep fr.tm, fr.rows, fr.lent, fr.next⟩))) : Wp call (.rangeF f ps a b keep) fr Q := by
 have key : ∀ (V' : List (List AV)) (i : Nat) (fr : Fr), V.drop i = V' → i ≤ i0 → S i fr → ∃ n ex fr', ex ≠ .normal ∧ rounds (fun fr => bothE (evalCode call n a fr) (evalCode call n b)) (norm keep) keep ps i V' fr = some (i0, ex, fr') ∧ Q ex fr' := by
  intro V'
  induction V' with
  | nil =>
   intro i fr hd hi hS
   have hl : V.length - i = 0 := by rw [← List.length_drop, hd]; rfl
   have : i0 < V.length := by
    rcases Nat.lt_or_ge i0 V.length with h | h
    ·exact h
    ·rw [List.getElem?_eq_none h] at hv; cases hv
   omega
  | cons x V' ih =>
   intro i fr hd hi hS
   have hx' : V[i]? = some x := by
    have := List.getElem?_drop (xs := V) (i := i) (j := 0)
    rw [hd] at this
    simpa using this.symm
   have hd' : V.drop (i + 1) = V' := by rw [← List.drop_drop, hd]; rfl
   by_cases he : i = i0
   ·subst he
    rw [hv] at hx'
    cases hx'
    obtain ⟨tm, ht, hw⟩ := hx fr hS
    unfold Wp at hw
    obtain ⟨n1, ex1, fr1, e1, q1⟩ := hw
    cases ex1 with
    | exit j => exact q1.elim
    | ret => exact q1.elim
    | normal =>
     change Wp call b fr1 _ at q1
     unfold Wp at q1
     obtain ⟨n2, ex2, fr2, e2, q2⟩ := q1
     have hn : ex2 ≠ .normal := by
      rintro rfl
      obtain ⟨fr3, e3, q3⟩ := Ok.elim q2
      exact q3
     refine ⟨max n1 n2, ex2, ⟨keepT keep fr2.tm, fr2.rows, fr2.lent, fr2.next⟩, hn, ?_, ?_⟩
     ·simp only [rounds, ht]
      rw [show evalCode call (max n1 n2) a ⟨tm, fr.rows, fr.lent, fr.next⟩ = some (.normal, fr1) from evalCode_mono (CallF.le_refl _) (by omega) e1]
      simp only [bothE]
      rw [show evalCode call (max n1 n2) b fr1 = some (ex2, fr2) from evalCode_mono (CallF.le_refl _) (by omega) e2]
      cases ex2 with
      | normal => exact (hn rfl).elim
      | exit j => rfl
      | ret => rfl
     ·cases ex2 with
      | normal => exact (hn rfl).elim
      | exit j => exact q2
      | ret => exact q2
   ·obtain ⟨tm, ht, hw⟩ := hs i x fr (by omega) hx' hS
    unfold Wp at hw
    obtain ⟨n1, ex1, fr1, e1, q1⟩ := hw
    cases ex1 with
    | exit j => exact q1.elim
    | ret => exact q1.elim
    | normal =>
     change Wp call b fr1 _ at q1
     unfold Wp at q1
     obtain ⟨n2, ex2, fr2, e2, q2⟩ := q1
     cases ex2 with
     | exit j => exact q2.elim
     | ret => exact q2.elim
     | normal =>
      obtain ⟨fr3, e3, q3⟩ := Ok.elim q2
      obtain ⟨n3, ex4, fr4, hne, e4, q4⟩ := ih (i + 1) fr3 hd' (by omega) q3
      refine ⟨max n1 (max n2 n3), ex4, fr4, hne, ?_, q4⟩
      simp only [rounds, ht]
      rw [show evalCode call (max n1 (max n2 n3)) a ⟨tm, fr.rows, fr.lent, fr.next⟩ = some (.normal, fr1) from evalCode_mono (CallF.le_refl _) (by omega) e1]
      simp only [bothE]
      rw [show evalCode call (max n1 (max n2 n3)) b fr1 = some (.normal, fr2) from evalCode_mono (CallF.le_refl _) (by omega) e2]
      simp only [e3]
      exact rounds_mono (fun fr r h => bothE_mono (fun r h => evalCode_mono (CallF.le_refl _) (by omega) h) (fun fr r h => evalCode_mono (CallF.le_refl _) (by omega) h) h) e4
 obtain ⟨fr1, e0, hS0⟩ := Ok.elim h0
 obtain ⟨n, ex, fr2, hne, e1, hQ⟩ := key V 0 fr1 (List.drop_zero) (Nat.zero_le _) hS0
 unfold Wp
 refine ⟨n, ex, fr2, ?_, hQ⟩
 simp only [evalCode, hf, evRange, hz, evRangeF, List.nil_append, h1, e0, e1]
 cases ex with
 | normal => exact (hne rfl).elim
 | exit j => simp only [endRange, List.nil_append, h2]
 | ret => simp only [endRange, List.nil_append, h2]

/-- all lists of m numbers from a on, below most, ascending -/
def partsL (most : Nat) : Nat → Nat → List (List Nat)
 | 0, _ => [[]]
 | m + 1, a => (List.range (most - a)).flatMap fun i => (partsL most m (a + i + 1)).map fun l => (a + i) :: l
def partV (l : List Nat) : AV := .list 1 (natsV l)
@[go_sem] theorem y_cells (q : Nat) : (AV.yieldT q).cells = [.yieldT q] := by rfl
@[go_sem] theorem y_scalar (q : Nat) : AV.scalar (.yieldT q) = true := by rfl
def pV (l : List (List Nat)) : List (List AV) := l.map fun x => [partV x]
theorem pV_append (l m : List (List Nat)) : pV (l ++ m) = pV l ++ pV m := by simp [pV]
def partsIn (most m a i : Nat) : List (List Nat) := (partsL most m (a + i + 1)).map fun l => (a + i) :: l
theorem parts_ok (a most m : Nat) : lim F 66 [iv a, iv most, iv m] = some (.func 85 [.iptr (.agg [iv m]) 0, .iptr (.agg [iv a]) 0, .iptr (.agg [iv most]) 0], []) := by
 refine lim_by (fn := a66) (k := 3) (res := [.tmp 6]) rfl rfl rfl (by simp -implicitDefEqProofs (maxSteps := 2000000) (disch := first | exact tt_rfl rfl | omega | (simp only [go_sem] <;> omega) | fail) only [go_sem]) ?_
 simp -implicitDefEqProofs (maxSteps := 2000000) (disch := first | exact tt_rfl rfl | omega | (simp only [go_sem] <;> omega) | fail) only [go_sem]
 repeat (first | apply Wp.seqA | apply Wp.skipS | apply Wp.blockS | ((first | apply Wp.regS | apply Wp.condV | apply Wp.reg | apply Wp.condW | apply fin_ret); simp -implicitDefEqProofs (maxSteps := 2000000) (disch := first | exact tt_rfl rfl | omega | (simp only [go_sem] <;> omega) | fail) only [go_sem] <;> try with_reducible rfl) | apply Wp.block | apply Wp.exitS | apply Wp.retS | apply Wp.exit | apply Wp.ret | apply Wp.skip)
theorem natsV_cons (n : Nat) (l : List Nat) : natsV (n :: l) = iv (n : Int) :: natsV l := rfl
theorem partsL_at (most m a i : Nat) (hi : i ≤ most - a) : pV (((List.range (most - a)).take (i + 1)).flatMap (partsIn most m a)) = pV (((List.range (most - a)).take i).flatMap (partsIn most m a)) ++ (if i < most - a then pV (partsIn most m a i) else []) := by
 split
 ·rename_i h
  rw [show (List.range (most - a)).take (i + 1) = (List.range (most - a)).take i ++ [i] by rw [List.take_succ_eq_append_getElem (by simpa using h), List.getElem_range], List.flatMap_append, pV_append]
  simp
 ·rename_i h
  rw [List.take_of_length_le (by simp; omega), List.take_of_length_le (by simp; omega), List.append_nil]
theorem partsL_len (most : Nat) : ∀ (m a : Nat), ∀ x ∈ partsL most m a, x.length = m
 | 0, a, x, h => by simp [partsL] at h; subst h; rfl
 | m + 1, a, x, h => by
  simp only [partsL, List.mem_flatMap, List.mem_map] at h
  obtain ⟨i, _, y, hy, rfl⟩ := h
  rw [List.length_cons, partsL_len most m _ y hy]
/-- what the call that guesses, and the one that is checked, say -/
def PartsG (most m : Nat) : Prop := ∀ (a : Nat), a ≤ 100 + most → ∀ xs : List (List AV), lim F 85 [.ylog none xs, .iptr (.agg [iv m]) 0, .iptr (.agg [iv a]) 0, .iptr (.agg [iv most]) 0] = some (.tuple [], [.ylog none (xs ++ pV (partsL most m a))])
def PartsK (most m : Nat) : Prop := ∀ (a : Nat), a ≤ 100 + most → lim F 85 [.ylog (some 0) (pV (partsL most m a)), .iptr (.agg [iv m]) 0, .iptr (.agg [iv a]) 0, .iptr (.agg [iv most]) 0] = some (.tuple [], [.ylog (some 0) []])
def PartsX (most m : Nat) : Prop := ∀ (a : Nat), a ≤ 100 + most → ∀ k, k < (partsL most m a).length → lim F 85 [.ylog (some 1) ((pV (partsL most m a)).take (k + 1)), .iptr (.agg [iv m]) 0, .iptr (.agg [iv a]) 0, .iptr (.agg [iv most]) 0] = some (.tuple [], [.ylog (some 1) []])
theorem partsG_zero (most : Nat) : PartsG most 0 := by
 intro a ha xs
 refine lim_by (fn := a85) (k := 4) (res := []) rfl rfl rfl (by simp -implicitDefEqProofs (maxSteps := 2000000) (disch := first | exact tt_rfl rfl | omega | (simp only [go_sem] <;> omega) | fail) only [go_sem]) ?_
 simp -implicitDefEqProofs (maxSteps := 2000000) (disch := first | exact tt_rfl rfl | omega | (simp only [go_sem] <;> omega) | fail) only [go_sem]
 repeat (first | apply Wp.seqA | apply Wp.skipS | apply Wp.blockS | ((first | apply Wp.regS | apply Wp.condV | apply Wp.reg | apply Wp.condW | apply fin_ret); simp -implicitDefEqProofs (maxSteps := 2000000) (disch := first | exact tt_rfl rfl | omega | (simp only [go_sem] <;> omega) | fail) only [go_sem] <;> try with_reducible rfl) | apply Wp.block | apply Wp.exitS | apply Wp.retS | apply Wp.exit | apply Wp.ret | apply Wp.skip)
 rfl
theorem pV_get {P : List (List Nat)} {j : Nat} {v : List AV} (hv : (pV P)[j]? = some v) : ∃ hj : j < P.length, v = [partV P[j]] := by
 rcases Nat.lt_or_ge j P.length with hj | hj
 ·rw [pV, List.getElem?_map, List.getElem?_eq_getElem hj] at hv
  exact ⟨hj, by cases hv; rfl⟩
 ·rw [pV, List.getElem?_map, List.getElem?_eq_none hj] at hv; cases hv
theorem partsG_succ (most : Nat) (hm : most ≤ 100) (m : Nat) (hm1 : m ≤ 100) (ih : PartsG most m) (ik : PartsK most m) : PartsG most (m + 1) := by
 intro a ha xs
 have hp := fun n : Nat => parts_ok n most m
 refine lim_by (fn := a85) (k := 4) (res := []) rfl rfl rfl (by simp -implicitDefEqProofs (maxSteps := 2000000) (disch := first | exact tt_rfl rfl | omega | (simp only [go_sem] <;> omega) | fail) only [go_sem]) ?_
 simp -implicitDefEqProofs (maxSteps := 2000000) (disch := first | exact tt_rfl rfl | omega | (simp only [go_sem] <;> omega) | fail) only [go_sem]
 repeat (first | apply Wp.seqA | apply Wp.skipS | apply Wp.blockS | ((first | apply Wp.regS | apply Wp.condV | apply Wp.reg | apply Wp.condW | apply fin_ret); simp -implicitDefEqProofs (maxSteps := 2000000) (disch := first | exact tt_rfl rfl | omega | (simp only [go_sem] <;> omega) | fail) only [go_sem, show ¬ ((m : Int) + 1 = 0) by omega, show (((m + 1 : Nat)) : Int) = m + 1 by omega] <;> try with_reducible rfl) | apply Wp.block | apply Wp.exitS | apply Wp.retS | apply Wp.exit | apply Wp.ret | apply Wp.skip)
 apply Wp.loopF (most - a) (fun i => ⟨[(1, .iptr (.agg [iv ((m : Int) + 1)]) 0), (3, .iptr (.agg [iv most]) 0), (4, .ptr 256 0 0), (5, .ptr 320 0 0)], [(256, .box [.yieldT 200000]), (320, .box [iv ((a : Int) + i)]), (200000, .num 3500000), (3500000, .log none (xs ++ pV (((List.range (most - a)).take i).flatMap (partsIn most m a))))], [(200000, none)], 10000000⟩) (fun _ => True)
 ·simp -implicitDefEqProofs (maxSteps := 2000000) (disch := first | exact tt_rfl rfl | omega | (simp only [go_sem] <;> omega) | fail) only [go_sem, norm_eq, Ok.some]
  simp [pV]
 ·trivial
 intro i hi _
 by_cases h : i < most - a
 ·have hg := ih (a + i + 1) (by omega) []
  have hk := ik (a + i + 1) (by omega)
  rw [List.nil_append] at hg
  have hq := hp (a + i + 1)
  rw [show ((a + i + 1 : Nat) : Int) = (a : Int) + i + 1 by omega] at hg hq hk
  repeat (first | apply Wp.seqA | apply Wp.skipS | apply Wp.blockS | ((first | apply Wp.regS | apply Wp.condV | apply Wp.reg | apply Wp.condW | apply fin_ret); simp -implicitDefEqProofs (maxSteps := 2000000) (disch := first | exact tt_rfl rfl | omega | (simp only [go_sem] <;> omega) | fail) only [go_sem, show (a : Int) + i < most by omega, hq, show (m : Int) + 1 - 1 = m by omega] <;> try with_reducible rfl) | apply Wp.block | apply Wp.exitS | apply Wp.retS | apply Wp.exit | apply Wp.ret | apply Wp.skip)
  have hx := partsL_at most m a i (by omega)
  rw [if_pos h] at hx
  generalize pV (((List.range (most - a)).take i).flatMap (partsIn most m a)) = X at *
  generalize pV (((List.range (most - a)).take (i + 1)).flatMap (partsIn most m a)) = X' at *
  subst hx
  unfold partsIn
  have hpl := partsL_len most m (a + i + 1)
  generalize partsL most m (a + i + 1) = P at *
  refine Wp.rangeF (fun j fr => fr = ⟨[(1, .iptr (.agg [iv ((m : Int) + 1)]) 0), (3, .iptr (.agg [iv most]) 0), (4, .ptr 256 0 0), (5, .ptr 320 0 0)], [(256, .box [.yieldT 200000]), (320, .box [iv ((a : Int) + i)]), (200000, .num 3500000), (3500000, .log none (xs ++ X ++ pV ((P.take j).map fun l => (a + i) :: l)))], [(200000, none)], 10000000⟩) rfl rfl hg hk ?_ ?_ ?_
  ·simp -implicitDefEqProofs (maxSteps := 2000000) (disch := first | exact tt_rfl rfl | omega | (simp only [go_sem] <;> omega) | fail) only [go_sem, norm_eq, Ok.some]
   simp [pV]
  ·rintro j v fr hv rfl
   obtain ⟨hj, rfl⟩ := pV_get hv
   rw [show P.take (j + 1) = P.take j ++ [P[j]] by rw [List.take_succ_eq_append_getElem hj]]
   refine ⟨_, rfl, ?_⟩
   have hrl := hpl P[j] (List.getElem_mem hj)
   unfold partV
   generalize P[j] = r at *
   have n1 : (natsV r).length = m := by simp [hrl]
   have tk : List.take (1 + m) (AV.int .i64 ((a : Int) + i) :: natsV r) = AV.int .i64 ((a : Int) + i) :: natsV r := List.take_of_length_le (by simp [n1]; omega)
   repeat (first | apply Wp.seqA | apply Wp.skipS | apply Wp.blockS | ((first | apply Wp.regS | apply Wp.condV | apply Wp.reg | apply Wp.condW | apply fin_ret); simp -implicitDefEqProofs (maxSteps := 2000000) (disch := first | exact tt_rfl rfl | omega | (simp only [go_sem] <;> omega) | fail) only [go_sem, n1, show 1 + m ≤ 34359738368 by omega, show 1 + m - 1 = m by omega, tk] <;> try with_reducible rfl) | apply Wp.block | apply Wp.exitS | apply Wp.retS | apply Wp.exit | apply Wp.ret | apply Wp.skip)
   apply block_norm
   apply round_next
   ·simp -implicitDefEqProofs (maxSteps := 2000000) (disch := first | exact tt_rfl rfl | omega | (simp only [go_sem] <;> omega) | fail) only [go_sem, norm_eq, Ok.some]; with_reducible rfl
   simp [pV, partV, natsV_cons]
  ·rintro fr rfl
   apply block_norm
   repeat (first | apply Wp.seqA | apply Wp.skipS | apply Wp.blockS | ((first | apply Wp.regS | apply Wp.condV | apply Wp.reg | apply Wp.condW | apply fin_ret); simp -implicitDefEqProofs (maxSteps := 2000000) (disch := first | exact tt_rfl rfl | omega | (simp only [go_sem] <;> omega) | fail) only [go_sem] <;> try with_reducible rfl) | apply Wp.block | apply Wp.exitS | apply Wp.retS | apply Wp.exit | apply Wp.ret | apply Wp.skip)
   apply round_next
   ·simp -implicitDefEqProofs (maxSteps := 2000000) (disch := first | exact tt_rfl rfl | omega | (simp only [go_sem] <;> omega) | fail) only [go_sem, norm_eq, Ok.some]; with_reducible rfl
   exact ⟨h, by simp [pV, Int.add_assoc], trivial⟩
 ·obtain rfl : i = most - a := by omega
  repeat (first | apply Wp.seqA | apply Wp.skipS | apply Wp.blockS | ((first | apply Wp.regS | apply Wp.condV | apply Wp.reg | apply Wp.condW | apply fin_ret); simp -implicitDefEqProofs (maxSteps := 2000000) (disch := first | exact tt_rfl rfl | omega | (simp only [go_sem] <;> omega) | fail) only [go_sem, show ¬ (a : Int) + ((most - a : Nat) : Int) < most by omega] <;> try with_reducible rfl) | apply Wp.block | apply Wp.exitS | apply Wp.retS | apply Wp.exit | apply Wp.ret | apply Wp.skip)
  rw [List.take_of_length_le (by simp)]
  rfl

theorem beqL_map {α : Type} (f : α → AV) (h : ∀ x, AV.beq (f x) (f x) = true) (l : List α) : AV.beqL (l.map f) (l.map f) = true := by
 induction l with
 | nil => rfl
 | cons a l ih => simp only [List.map_cons, AV.beqL, h a, ih, Bool.and_self]
theorem beq_iv (n : Int) : AV.beq (iv n) (iv n) = true := by simp [AV.beq]
theorem list_beq (n : Nat) (r : List Nat) : AV.beqL [AV.list 1 (iv (n : Int) :: natsV r)] [AV.list 1 (iv (n : Int) :: natsV r)] = true := by
 have h := beqL_map (fun n : Nat => iv (n : Int)) (fun n => beq_iv n) (n :: r)
 have e : (n :: r).map (fun n : Nat => iv (n : Int)) = iv (n : Int) :: natsV r := by rw [← natsV_cons]; rfl
 rw [e] at h
 simp only [AV.beqL, AV.beq] at h ⊢
 simpa using h
theorem partsK_zero (most : Nat) : PartsK most 0 := by
 intro a ha
 have e : pV (partsL most 0 a) = [[.list 1 []]] := rfl
 rw [e]
 have b : AV.beqL [.list 1 []] [.list 1 []] = true := by simp [AV.beqL, AV.beq]
 refine lim_by (fn := a85) (k := 4) (res := []) rfl rfl rfl (by simp -implicitDefEqProofs (maxSteps := 2000000) (disch := first | exact tt_rfl rfl | omega | (simp only [go_sem] <;> omega) | fail) only [go_sem]) ?_
 simp -implicitDefEqProofs (maxSteps := 2000000) (disch := first | exact tt_rfl rfl | omega | (simp only [go_sem] <;> omega) | fail) only [go_sem]
 repeat (first | apply Wp.seqA | apply Wp.skipS | apply Wp.blockS | ((first | apply Wp.regS | apply Wp.condV | apply Wp.reg | apply Wp.condW | apply fin_ret); simp -implicitDefEqProofs (maxSteps := 2000000) (disch := first | exact tt_rfl rfl | omega | (simp only [go_sem] <;> omega) | fail) only [go_sem, b] <;> try with_reducible rfl) | apply Wp.block | apply Wp.exitS | apply Wp.retS | apply Wp.exit | apply Wp.ret | apply Wp.skip)
theorem partsK_succ (most : Nat) (hm : most ≤ 100) (m : Nat) (hm1 : m ≤ 100) (ih : PartsG most m) (ik : PartsK most m) : PartsK most (m + 1) := by
 intro a ha
 have hp := fun n : Nat => parts_ok n most m
 have e0 : partsL most (m + 1) a = (List.range (most - a)).flatMap (partsIn most m a) := rfl
 rw [e0]
 refine lim_by (fn := a85) (k := 4) (res := []) rfl rfl rfl (by simp -implicitDefEqProofs (maxSteps := 2000000) (disch := first | exact tt_rfl rfl | omega | (simp only [go_sem] <;> omega) | fail) only [go_sem]) ?_
 simp -implicitDefEqProofs (maxSteps := 2000000) (disch := first | exact tt_rfl rfl | omega | (simp only [go_sem] <;> omega) | fail) only [go_sem]
 repeat (first | apply Wp.seqA | apply Wp.skipS | apply Wp.blockS | ((first | apply Wp.regS | apply Wp.condV | apply Wp.reg | apply Wp.condW | apply fin_ret); simp -implicitDefEqProofs (maxSteps := 2000000) (disch := first | exact tt_rfl rfl | omega | (simp only [go_sem] <;> omega) | fail) only [go_sem, show ¬ ((m : Int) + 1 = 0) by omega, show (((m + 1 : Nat)) : Int) = m + 1 by omega] <;> try with_reducible rfl) | apply Wp.block | apply Wp.exitS | apply Wp.retS | apply Wp.exit | apply Wp.ret | apply Wp.skip)
 apply Wp.loopF (most - a) (fun i => ⟨[(1, .iptr (.agg [iv ((m : Int) + 1)]) 0), (3, .iptr (.agg [iv most]) 0), (4, .ptr 256 0 0), (5, .ptr 320 0 0)], [(256, .box [.yieldT 200000]), (320, .box [iv ((a : Int) + i)]), (200000, .num 3500000), (3500000, .log (some 0) (pV (((List.range (most - a)).drop i).flatMap (partsIn most m a))))], [(200000, none)], 10000000⟩) (fun _ => True)
 ·simp -implicitDefEqProofs (maxSteps := 2000000) (disch := first | exact tt_rfl rfl | omega | (simp only [go_sem] <;> omega) | fail) only [go_sem, norm_eq, Ok.some]
  simp [pV]
 ·trivial
 intro i hi _
 by_cases h : i < most - a
 ·have hg := ih (a + i + 1) (by omega) []
  have hk := ik (a + i + 1) (by omega)
  rw [List.nil_append] at hg
  have hq := hp (a + i + 1)
  rw [show ((a + i + 1 : Nat) : Int) = (a : Int) + i + 1 by omega] at hg hq hk
  repeat (first | apply Wp.seqA | apply Wp.skipS | apply Wp.blockS | ((first | apply Wp.regS | apply Wp.condV | apply Wp.reg | apply Wp.condW | apply fin_ret); simp -implicitDefEqProofs (maxSteps := 2000000) (disch := first | exact tt_rfl rfl | omega | (simp only [go_sem] <;> omega) | fail) only [go_sem, show (a : Int) + i < most by omega, hq, show (m : Int) + 1 - 1 = m by omega] <;> try with_reducible rfl) | apply Wp.block | apply Wp.exitS | apply Wp.retS | apply Wp.exit | apply Wp.ret | apply Wp.skip)
  have hx : pV (((List.range (most - a)).drop i).flatMap (partsIn most m a)) = pV (partsIn most m a i) ++ pV (((List.range (most - a)).drop (i + 1)).flatMap (partsIn most m a)) := by
   rw [List.drop_eq_getElem_cons (by simpa using h), List.getElem_range, List.flatMap_cons, pV_append]
  rw [hx]
  generalize pV (((List.range (most - a)).drop (i + 1)).flatMap (partsIn most m a)) = X at *
  unfold partsIn
  have hpl := partsL_len most m (a + i + 1)
  generalize partsL most m (a + i + 1) = P at *
  refine Wp.rangeF (fun j fr => fr = ⟨[(1, .iptr (.agg [iv ((m : Int) + 1)]) 0), (3, .iptr (.agg [iv most]) 0), (4, .ptr 256 0 0), (5, .ptr 320 0 0)], [(256, .box [.yieldT 200000]), (320, .box [iv ((a : Int) + i)]), (200000, .num 3500000), (3500000, .log (some 0) (pV ((P.drop j).map fun l => (a + i) :: l) ++ X))], [(200000, none)], 10000000⟩) rfl rfl hg hk ?_ ?_ ?_
  ·simp -implicitDefEqProofs (maxSteps := 2000000) (disch := first | exact tt_rfl rfl | omega | (simp only [go_sem] <;> omega) | fail) only [go_sem, norm_eq, Ok.some]
  ·rintro j v fr hv rfl
   obtain ⟨hj, rfl⟩ := pV_get hv
   rw [List.drop_eq_getElem_cons hj]
   refine ⟨_, rfl, ?_⟩
   have hrl := hpl P[j] (List.getElem_mem hj)
   unfold partV
   generalize P[j] = r at *
   have n1 : (natsV r).length = m := by simp [hrl]
   have tk : List.take (1 + m) (AV.int .i64 ((a : Int) + i) :: natsV r) = AV.int .i64 ((a : Int) + i) :: natsV r := List.take_of_length_le (by simp [n1]; omega)
   have b1 := list_beq (a + i) r
   have b2 : pV ((r :: P.drop (j + 1)).map fun l => (a + i) :: l) = [.list 1 (iv ((a + i : Nat) : Int) :: natsV r)] :: pV ((P.drop (j + 1)).map fun l => (a + i) :: l) := rfl
   have c1 : (((a + i : Nat)) : Int) = (a : Int) + i := by omega
   rw [b2, c1]
   rw [c1] at b1
   repeat (first | apply Wp.seqA | apply Wp.skipS | apply Wp.blockS | ((first | apply Wp.regS | apply Wp.condV | apply Wp.reg | apply Wp.condW | apply fin_ret); simp -implicitDefEqProofs (maxSteps := 2000000) (disch := first | exact tt_rfl rfl | omega | (simp only [go_sem] <;> omega) | fail) only [go_sem, n1, show 1 + m ≤ 34359738368 by omega, show 1 + m - 1 = m by omega, tk, b1, if_true] <;> try with_reducible rfl) | apply Wp.block | apply Wp.exitS | apply Wp.retS | apply Wp.exit | apply Wp.ret | apply Wp.skip)
   apply block_norm
   apply round_next
   ·simp -implicitDefEqProofs (maxSteps := 2000000) (disch := first | exact tt_rfl rfl | omega | (simp only [go_sem] <;> omega) | fail) only [go_sem, norm_eq, Ok.some]; with_reducible rfl
   trivial
  ·rintro fr rfl
   apply block_norm
   repeat (first | apply Wp.seqA | apply Wp.skipS | apply Wp.blockS | ((first | apply Wp.regS | apply Wp.condV | apply Wp.reg | apply Wp.condW | apply fin_ret); simp -implicitDefEqProofs (maxSteps := 2000000) (disch := first | exact tt_rfl rfl | omega | (simp only [go_sem] <;> omega) | fail) only [go_sem] <;> try with_reducible rfl) | apply Wp.block | apply Wp.exitS | apply Wp.retS | apply Wp.exit | apply Wp.ret | apply Wp.skip)
   apply round_next
   ·simp -implicitDefEqProofs (maxSteps := 2000000) (disch := first | exact tt_rfl rfl | omega | (simp only [go_sem] <;> omega) | fail) only [go_sem, norm_eq, Ok.some]; with_reducible rfl
   exact ⟨h, by simp [pV, Int.add_assoc], trivial⟩
 ·obtain rfl : i = most - a := by omega
  repeat (first | apply Wp.seqA | apply Wp.skipS | apply Wp.blockS | ((first | apply Wp.regS | apply Wp.condV | apply Wp.reg | apply Wp.condW | apply fin_ret); simp -implicitDefEqProofs (maxSteps := 2000000) (disch := first | exact tt_rfl rfl | omega | (simp only [go_sem] <;> omega) | fail) only [go_sem, show ¬ (a : Int) + ((most - a : Nat) : Int) < most by omega] <;> try with_reducible rfl) | apply Wp.block | apply Wp.exitS | apply Wp.retS | apply Wp.exit | apply Wp.ret | apply Wp.skip)
  rw [List.drop_of_length_le (by simp)]
  rfl

theorem partsX_zero (most : Nat) : PartsX most 0 := by
 intro a ha k hk
 have e : (pV (partsL most 0 a)).take (k + 1) = [[.list 1 []]] := by
  simp [partsL] at hk
  subst hk
  rfl
 rw [e]
 have b : AV.beqL [.list 1 []] [.list 1 []] = true := by simp [AV.beqL, AV.beq]
 refine lim_by (fn := a85) (k := 4) (res := []) rfl rfl rfl (by simp -implicitDefEqProofs (maxSteps := 2000000) (disch := first | exact tt_rfl rfl | omega | (simp only [go_sem] <;> omega) | fail) only [go_sem]) ?_
 simp -implicitDefEqProofs (maxSteps := 2000000) (disch := first | exact tt_rfl rfl | omega | (simp only [go_sem] <;> omega) | fail) only [go_sem]
 repeat (first | apply Wp.seqA | apply Wp.skipS | apply Wp.blockS | ((first | apply Wp.regS | apply Wp.condV | apply Wp.reg | apply Wp.condW | apply fin_ret); simp -implicitDefEqProofs (maxSteps := 2000000) (disch := first | exact tt_rfl rfl | omega | (simp only [go_sem] <;> omega) | fail) only [go_sem, b] <;> try with_reducible rfl) | apply Wp.block | apply Wp.exitS | apply Wp.retS | apply Wp.exit | apply Wp.ret | apply Wp.skip)
theorem partsX_succ (most : Nat) (hm : most ≤ 100) (m : Nat) (hm1 : m ≤ 100) (ih : PartsG most m) (ik : PartsK most m) (ix : PartsX most m) : PartsX most (m + 1) := by
 intro a ha k hkl
 have hp := fun n : Nat => parts_ok n most m
 have e0 : partsL most (m + 1) a = (List.range (most - a)).flatMap (partsIn most m a) := rfl
 rw [e0] at hkl ⊢
 refine lim_by (fn := a85) (k := 4) (res := []) rfl rfl rfl (by simp -implicitDefEqProofs (maxSteps := 2000000) (disch := first | exact tt_rfl rfl | omega | (simp only [go_sem] <;> omega) | fail) only [go_sem]) ?_
 simp -implicitDefEqProofs (maxSteps := 2000000) (disch := first | exact tt_rfl rfl | omega | (simp only [go_sem] <;> omega) | fail) only [go_sem]
 repeat (first | apply Wp.seqA | apply Wp.skipS | apply Wp.blockS | ((first | apply Wp.regS | apply Wp.condV | apply Wp.reg | apply Wp.condW | apply fin_ret); simp -implicitDefEqProofs (maxSteps := 2000000) (disch := first | exact tt_rfl rfl | omega | (simp only [go_sem] <;> omega) | fail) only [go_sem, show ¬ ((m : Int) + 1 = 0) by omega, show (((m + 1 : Nat)) : Int) = m + 1 by omega] <;> try with_reducible rfl) | apply Wp.block | apply Wp.exitS | apply Wp.retS | apply Wp.exit | apply Wp.ret | apply Wp.skip)
 apply Wp.loopF (most - a) (fun i => ⟨[(1, .iptr (.agg [iv ((m : Int) + 1)]) 0), (3, .iptr (.agg [iv most]) 0), (4, .ptr 256 0 0), (5, .ptr 320 0 0)], [(256, .box [.yieldT 200000]), (320, .box [iv ((a : Int) + i)]), (200000, .num 3500000), (3500000, .log (some 1) ((pV (((List.range (most - a)).drop i).flatMap (partsIn most m a))).take (k + 1 - (((List.range (most - a)).take i).flatMap (partsIn most m a)).length)))], [(200000, none)], 10000000⟩) (fun i => (((List.range (most - a)).take i).flatMap (partsIn most m a)).length ≤ k)
 ·simp -implicitDefEqProofs (maxSteps := 2000000) (disch := first | exact tt_rfl rfl | omega | (simp only [go_sem] <;> omega) | fail) only [go_sem, norm_eq, Ok.some]
  simp [pV]
 ·simp
 intro i hi hq0
 by_cases h : i < most - a
 ·have hg := ih (a + i + 1) (by omega) []
  have hk := ik (a + i + 1) (by omega)
  have hxx := ix (a + i + 1) (by omega)
  rw [List.nil_append] at hg
  have hq := hp (a + i + 1)
  rw [show ((a + i + 1 : Nat) : Int) = (a : Int) + i + 1 by omega] at hg hq hk hxx
  repeat (first | apply Wp.seqA | apply Wp.skipS | apply Wp.blockS | ((first | apply Wp.regS | apply Wp.condV | apply Wp.reg | apply Wp.condW | apply fin_ret); simp -implicitDefEqProofs (maxSteps := 2000000) (disch := first | exact tt_rfl rfl | omega | (simp only [go_sem] <;> omega) | fail) only [go_sem, show (a : Int) + i < most by omega, hq, show (m : Int) + 1 - 1 = m by omega] <;> try with_reducible rfl) | apply Wp.block | apply Wp.exitS | apply Wp.retS | apply Wp.exit | apply Wp.ret | apply Wp.skip)
  have hx : pV (((List.range (most - a)).drop i).flatMap (partsIn most m a)) = pV (partsIn most m a i) ++ pV (((List.range (most - a)).drop (i + 1)).flatMap (partsIn most m a)) := by
   rw [List.drop_eq_getElem_cons (by simpa using h), List.getElem_range, List.flatMap_cons, pV_append]
  have hy : (((List.range (most - a)).take (i + 1)).flatMap (partsIn most m a)).length = (((List.range (most - a)).take i).flatMap (partsIn most m a)).length + (partsIn most m a i).length := by
   rw [show (List.range (most - a)).take (i + 1) = (List.range (most - a)).take i ++ [i] by rw [List.take_succ_eq_append_getElem (by simpa using h), List.getElem_range], List.flatMap_append, List.length_append]
   simp
  have hz : ((List.range (most - a)).flatMap (partsIn most m a)).length = (((List.range (most - a)).take (i + 1)).flatMap (partsIn most m a)).length + (pV (((List.range (most - a)).drop (i + 1)).flatMap (partsIn most m a))).length := by
   rw [pV, List.length_map, ← List.length_append, ← List.flatMap_append, List.take_append_drop]
  rw [hx]
  generalize pV (((List.range (most - a)).drop (i + 1)).flatMap (partsIn most m a)) = X at *
  generalize (((List.range (most - a)).take (i + 1)).flatMap (partsIn most m a)).length = c' at *
  generalize (((List.range (most - a)).take i).flatMap (partsIn most m a)).length = c at *
  rw [hz] at hkl
  unfold partsIn at hy ⊢
  rw [List.length_map] at hy
  have hpl := partsL_len most m (a + i + 1)
  generalize partsL most m (a + i + 1) = P at *
  obtain ⟨q, hqe⟩ : ∃ q, k + 1 - c = q + 1 := ⟨k - c, by omega⟩
  rw [hqe]
  by_cases hqp : q < P.length
  ·have hst := hxx q hqp
   refine Wp.rangeX (fun j fr => j ≤ q ∧ fr = ⟨[(1, .iptr (.agg [iv ((m : Int) + 1)]) 0), (3, .iptr (.agg [iv most]) 0), (4, .ptr 256 0 0), (5, .ptr 320 0 0)], [(256, .box [.yieldT 200000]), (320, .box [iv ((a : Int) + i)]), (200000, .num 3500000), (3500000, .log (some 1) ((pV ((P.drop j).map fun l => (a + i) :: l) ++ X).take (q + 1 - j)))], [(200000, none)], 10000000⟩) q [partV P[q]] rfl rfl hg (by rw [pV, List.getElem?_map, List.getElem?_eq_getElem hqp]; rfl) hst ?_ ?_ ?_
   ·simp -implicitDefEqProofs (maxSteps := 2000000) (disch := first | exact tt_rfl rfl | omega | (simp only [go_sem] <;> omega) | fail) only [go_sem, norm_eq, Ok.some]
    exact ⟨Nat.zero_le _, rfl⟩
   ·rintro j v fr hjq hv ⟨_, rfl⟩
    obtain ⟨hj, rfl⟩ := pV_get hv
    rw [List.drop_eq_getElem_cons hj]
    refine ⟨_, rfl, ?_⟩
    have hrl := hpl P[j] (List.getElem_mem hj)
    unfold partV
    generalize P[j] = r at *
    have n1 : (natsV r).length = m := by simp [hrl]
    have tk : List.take (1 + m) (AV.int .i64 ((a : Int) + i) :: natsV r) = AV.int .i64 ((a : Int) + i) :: natsV r := List.take_of_length_le (by simp [n1]; omega)
    have b1 := list_beq (a + i) r
    have b2 : pV ((r :: P.drop (j + 1)).map fun l => (a + i) :: l) = [.list 1 (iv ((a + i : Nat) : Int) :: natsV r)] :: pV ((P.drop (j + 1)).map fun l => (a + i) :: l) := rfl
    have c1 : (((a + i : Nat)) : Int) = (a : Int) + i := by omega
    have he : (List.take (q + 1 - (j + 1)) (pV ((P.drop (j + 1)).map fun l => (a + i) :: l) ++ X)).isEmpty = false := by
     rw [List.isEmpty_eq_false_iff, ← List.length_pos_iff]
     simp [pV]; omega
    rw [b2, c1, List.cons_append, show q + 1 - j = (q + 1 - (j + 1)) + 1 by omega, List.take_succ_cons]
    rw [c1] at b1
    generalize List.take (q + 1 - (j + 1)) (pV ((P.drop (j + 1)).map fun l => (a + i) :: l) ++ X) = Z at *
    repeat (first | apply Wp.seqA | apply Wp.skipS | apply Wp.blockS | ((first | apply Wp.regS | apply Wp.condV | apply Wp.reg | apply Wp.condW | apply fin_ret); simp -implicitDefEqProofs (maxSteps := 2000000) (disch := first | exact tt_rfl rfl | omega | (simp only [go_sem] <;> omega) | fail) only [go_sem, n1, show 1 + m ≤ 34359738368 by omega, show 1 + m - 1 = m by omega, tk, b1, if_true, he] <;> try with_reducible rfl) | apply Wp.block | apply Wp.exitS | apply Wp.retS | apply Wp.exit | apply Wp.ret | apply Wp.skip)
    apply block_norm
    apply round_next
    ·simp -implicitDefEqProofs (maxSteps := 2000000) (disch := first | exact tt_rfl rfl | omega | (simp only [go_sem] <;> omega) | fail) only [go_sem, norm_eq, Ok.some]; with_reducible rfl
    exact ⟨by omega, rfl⟩
   ·rintro fr ⟨_, rfl⟩
    rw [List.drop_eq_getElem_cons hqp]
    refine ⟨_, rfl, ?_⟩
    have hrl := hpl P[q] (List.getElem_mem hqp)
    unfold partV
    generalize P[q] = r at *
    have n1 : (natsV r).length = m := by simp [hrl]
    have tk : List.take (1 + m) (AV.int .i64 ((a : Int) + i) :: natsV r) = AV.int .i64 ((a : Int) + i) :: natsV r := List.take_of_length_le (by simp [n1]; omega)
    have b1 := list_beq (a + i) r
    have b2 : pV ((r :: P.drop (q + 1)).map fun l => (a + i) :: l) = [.list 1 (iv ((a + i : Nat) : Int) :: natsV r)] :: pV ((P.drop (q + 1)).map fun l => (a + i) :: l) := rfl
    have c1 : (((a + i : Nat)) : Int) = (a : Int) + i := by omega
    rw [b2, c1, List.cons_append, show q + 1 - q = 0 + 1 by omega, List.take_succ_cons, List.take_zero]
    rw [c1] at b1
    repeat (first | apply Wp.seqA | apply Wp.skipS | apply Wp.blockS | ((first | apply Wp.regS | apply Wp.condV | apply Wp.reg | apply Wp.condW | apply fin_ret); simp -implicitDefEqProofs (maxSteps := 2000000) (disch := first | exact tt_rfl rfl | omega | (simp only [go_sem] <;> omega) | fail) only [go_sem, n1, show 1 + m ≤ 34359738368 by omega, show 1 + m - 1 = m by omega, tk, b1, if_true] <;> try with_reducible rfl) | apply Wp.block | apply Wp.exitS | apply Wp.retS | apply Wp.exit | apply Wp.ret | apply Wp.skip)
  ·refine Wp.rangeF (fun j fr => fr = ⟨[(1, .iptr (.agg [iv ((m : Int) + 1)]) 0), (3, .iptr (.agg [iv most]) 0), (4, .ptr 256 0 0), (5, .ptr 320 0 0)], [(256, .box [.yieldT 200000]), (320, .box [iv ((a : Int) + i)]), (200000, .num 3500000), (3500000, .log (some 1) ((pV ((P.drop j).map fun l => (a + i) :: l) ++ X).take (q + 1 - j)))], [(200000, none)], 10000000⟩) rfl rfl hg hk ?_ ?_ ?_
   ·simp -implicitDefEqProofs (maxSteps := 2000000) (disch := first | exact tt_rfl rfl | omega | (simp only [go_sem] <;> omega) | fail) only [go_sem, norm_eq, Ok.some]
    rfl
   ·rintro j v fr hv rfl
    obtain ⟨hj, rfl⟩ := pV_get hv
    rw [List.drop_eq_getElem_cons hj]
    refine ⟨_, rfl, ?_⟩
    have hrl := hpl P[j] (List.getElem_mem hj)
    unfold partV
    generalize P[j] = r at *
    have n1 : (natsV r).length = m := by simp [hrl]
    have tk : List.take (1 + m) (AV.int .i64 ((a : Int) + i) :: natsV r) = AV.int .i64 ((a : Int) + i) :: natsV r := List.take_of_length_le (by simp [n1]; omega)
    have b1 := list_beq (a + i) r
    have b2 : pV ((r :: P.drop (j + 1)).map fun l => (a + i) :: l) = [.list 1 (iv ((a + i : Nat) : Int) :: natsV r)] :: pV ((P.drop (j + 1)).map fun l => (a + i) :: l) := rfl
    have c1 : (((a + i : Nat)) : Int) = (a : Int) + i := by omega
    have he : (List.take (q + 1 - (j + 1)) (pV ((P.drop (j + 1)).map fun l => (a + i) :: l) ++ X)).isEmpty = false := by
     rw [List.isEmpty_eq_false_iff, ← List.length_pos_iff]
     simp [pV]; omega
    rw [b2, c1, List.cons_append, show q + 1 - j = (q + 1 - (j + 1)) + 1 by omega, List.take_succ_cons]
    rw [c1] at b1
    generalize List.take (q + 1 - (j + 1)) (pV ((P.drop (j + 1)).map fun l => (a + i) :: l) ++ X) = Z at *
    repeat (first | apply Wp.seqA | apply Wp.skipS | apply Wp.blockS | ((first | apply Wp.regS | apply Wp.condV | apply Wp.reg | apply Wp.condW | apply fin_ret); simp -implicitDefEqProofs (maxSteps := 2000000) (disch := first | exact tt_rfl rfl | omega | (simp only [go_sem] <;> omega) | fail) only [go_sem, n1, show 1 + m ≤ 34359738368 by omega, show 1 + m - 1 = m by omega, tk, b1, if_true, he] <;> try with_reducible rfl) | apply Wp.block | apply Wp.exitS | apply Wp.retS | apply Wp.exit | apply Wp.ret | apply Wp.skip)
    apply block_norm
    apply round_next
    ·simp -implicitDefEqProofs (maxSteps := 2000000) (disch := first | exact tt_rfl rfl | omega | (simp only [go_sem] <;> omega) | fail) only [go_sem, norm_eq, Ok.some]; with_reducible rfl
    trivial
   ·rintro fr rfl
    apply block_norm
    repeat (first | apply Wp.seqA | apply Wp.skipS | apply Wp.blockS | ((first | apply Wp.regS | apply Wp.condV | apply Wp.reg | apply Wp.condW | apply fin_ret); simp -implicitDefEqProofs (maxSteps := 2000000) (disch := first | exact tt_rfl rfl | omega | (simp only [go_sem] <;> omega) | fail) only [go_sem] <;> try with_reducible rfl) | apply Wp.block | apply Wp.exitS | apply Wp.retS | apply Wp.exit | apply Wp.ret | apply Wp.skip)
    apply round_next
    ·simp -implicitDefEqProofs (maxSteps := 2000000) (disch := first | exact tt_rfl rfl | omega | (simp only [go_sem] <;> omega) | fail) only [go_sem, norm_eq, Ok.some]; with_reducible rfl
    have e : k + 1 - c' = q + 1 - P.length := by omega
    have e2 : (pV P).length = P.length := by simp [pV]
    refine ⟨h, ?_, by omega⟩
    rw [e, e2, show P.drop P.length = [] by simp]
    simp [pV, Int.add_assoc]
 ·exfalso
  obtain rfl : i = most - a := by omega
  rw [List.take_of_length_le (by simp)] at hq0
  omega

theorem parts_all (most : Nat) (hm : most ≤ 100) : ∀ m, m ≤ 100 → PartsG most m ∧ PartsK most m ∧ PartsX most m
 | 0, _ => ⟨partsG_zero most, partsK_zero most, partsX_zero most⟩
 | m + 1, h => by
  obtain ⟨h1, h2, h3⟩ := parts_all most hm m (by omega)
  exact ⟨partsG_succ most hm m (by omega) h1 h2, partsK_succ most hm m (by omega) h1 h2, partsX_succ most hm m (by omega) h1 h2 h3⟩

end Go.Abs
