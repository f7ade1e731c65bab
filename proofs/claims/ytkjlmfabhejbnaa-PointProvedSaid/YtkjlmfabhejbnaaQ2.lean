/-
 Chapter 1: what the statements in bytes share. No condition beyond those that each theorem names.
-/
import Derived.Test.YtkjlmfabhejbnaaM14
import Derived.Test.YtkjlmfabhejbnaaD1
import Derived.Test.YtkjlmfabhejbnaaQ1
set_option linter.all false
namespace Go.Abs
set_option maxRecDepth 10000
set_option maxHeartbeats 4000000

theorem ownDes_ok (d : DesN) (hd : d.Ok) : lim F 16 [desV d] = some (.agg [iv (d.hk : Int), .own 1 (natsV d.rows)], []) := by
 have := hd.r60
 have h := own_ok d.a (by simp [DesN.a]; omega)
 rw [DesN.a_av] at h
 have e : d.a.rows.map (fun n => iv n) = natsV d.rows := by unfold DesN.a; rw [List.map_map]; rfl
 rw [e] at h
 exact h
theorem intsN_ok (l : List Nat) (hl : l.length ≤ 1000) : lim F 26 [.list 1 (natsV l)] = some (.own 1 (natsV l), []) := by
 have h := ints_ok (l.map fun n : Nat => (n : Int)) (by simp; omega)
 rw [List.map_map] at h
 exact h
theorem paper_rows (x : PaperB) (m : Nat) : (paperN x m).rows.length ≤ 20 := by
 unfold paperN
 simp
 omega
def fixRow (hk : Nat) (fixed : List (Fin 65536)) (i : Nat) : Nat := if fixed = [] then 0 else ((fixed[i % fixed.length]?.map fun r => r.1).getD 0) &&& (2 ^ hk - 1)
def fixN (d : DesN) (fixed : List (Fin 65536)) : List Nat := (List.range d.rows.length).map (fixRow d.hk fixed)
theorem fixRow_lt (hk : Nat) (fixed : List (Fin 65536)) (i : Nat) : fixRow hk fixed i < 2 ^ hk := by
 have : 0 < 2 ^ hk := Nat.pow_pos (by omega)
 unfold fixRow
 split
 ·exact this
 ·have h : ((fixed[i % fixed.length]?.map fun r => r.1).getD 0) &&& (2 ^ hk - 1) ≤ 2 ^ hk - 1 := Nat.and_le_right
  omega
theorem fix_ok (d : DesN) (fixed : List (Fin 65536)) : FixOk d (fixN d fixed) where
 len := by simp [fixN]
 lt := fun r hr => by
  unfold fixN at hr
  obtain ⟨i, _, rfl⟩ := List.mem_map.1 hr
  exact fixRow_lt _ _ _
/-- a point more that is changed, if it need not stay -/
def oth (fx rows : List Nat) (i h : Nat) : List Nat := if fx.getD i 0 &&& 2 ^ h = 0 then rows.set i (rows.getD i 0 ^^^ 2 ^ h) else rows
theorem oth_len (fx rows : List Nat) (i h : Nat) : (oth fx rows i h).length = rows.length := by
 unfold oth; split <;> simp
theorem and_pow (f h : Nat) : (f &&& 2 ^ h = 0) ↔ f.testBit h = false := by
 constructor
 ·intro e
  have := congrArg (fun y => Nat.testBit y h) e
  simpa [Nat.testBit_and, Nat.testBit_two_pow_self] using this
 ·intro e
  apply Nat.eq_of_testBit_eq
  intro j
  rw [Nat.testBit_and, Nat.testBit_two_pow, Nat.zero_testBit]
  by_cases hj : h = j
  ·subst hj; rw [e]; rfl
  ·rw [decide_eq_false hj, Bool.and_false]
theorem Other.self {d : DesN} (hd : d.Ok) (fx : List Nat) : Other d d fx := ⟨hd, rfl, rfl, fun _ _ _ _ _ => rfl⟩
theorem Other.step {d e : DesN} {fx : List Nat} (h : Other d e fx) {i k : Nat} (hi : i < d.rows.length) (hk : k < d.hk) : Other d ⟨e.hk, oth fx e.rows i k⟩ fx := by
 have hlt : e.rows.getD i 0 < 2 ^ e.hk := by
  have hi' : i < e.rows.length := by rw [h.len]; exact hi
  have := h.ok.lt _ (List.getElem_mem hi')
  rw [← rows_get hi'] at this; exact this
 unfold oth
 split
 ·rename_i h0
  refine ⟨⟨h.ok.h1, h.ok.h24, by simp; exact h.ok.r1, by simp; exact h.ok.r60, fun r hr => ?_⟩, h.hk, by simp; exact h.len, fun j hj q hq hfq => ?_⟩
  ·rcases List.mem_or_eq_of_mem_set hr with hr | rfl
   ·exact h.ok.lt r hr
   ·exact Nat.xor_lt_two_pow hlt (Nat.pow_lt_pow_right (by omega) (by rw [h.hk]; exact hk))
  ·have hkeep := h.keep j hj q hq hfq
   dsimp only
   by_cases hij : i = j
   ·subst hij
    rw [List.getD_eq_getElem?_getD, List.getElem?_set_self (by rw [h.len]; exact hi)]
    simp only [Option.getD_some]
    rw [Nat.testBit_xor, hkeep, Nat.testBit_two_pow]
    have hne : ¬ k = q := fun e => by
     subst e
     rw [(and_pow _ _).1 h0] at hfq; cases hfq
    rw [decide_eq_false hne, Bool.xor_false]
   ·rw [List.getD_eq_getElem?_getD, List.getElem?_set_ne hij, ← List.getD_eq_getElem?_getD]
    exact hkeep
 ·exact h
theorem winL_le {l : List Bool} (h0 : 0 < l.length) (b : Nat) : (winL l b).length ≤ l.length := by
 have hn : (winL l b).Nodup := by
  refine (pairwise_and_mem (wins_apart h0 b) (P := fun a => a < l.length) fun a ha => (win_lt h0 ha).1).imp ?_
  rintro a a' ⟨h1, h2, h3⟩ rfl
  exact h3 0 0 (Nat.zero_le _) (Nat.zero_le _) rfl
 have hs : winL l b ⊆ List.range l.length := fun a ha => List.mem_range.2 (win_lt h0 ha).1
 have := List.Nodup.length_le_of_subset hn hs
 rwa [List.length_range] at this
theorem winsD_len {d : DesN} (hd : d.Ok) (b : Nat) : (winsD d b).length ≤ d.rows.length * 24 := by
 rw [winsD_eq]
 generalize d.rows.length = n
 induction n with
 | zero => simp
 | succ n ih =>
  rw [List.range_succ, List.flatMap_append, List.length_append]
  simp only [List.flatMap_cons, List.flatMap_nil, List.append_nil]
  have h1 := win_len (pickR d n) b n
  rw [pickR_len] at h1
  have h2 := winL_le (l := pickR d n) (by rw [pickR_len]; exact hd.h1) b
  rw [pickR_len] at h2
  have := hd.h24
  rw [h1, Nat.succ_mul]; omega
/-- how many of the first so many windows each pick has -/
def cntW (d : DesN) (b t : Nat) : List Nat := (List.range d.rows.length).map fun i : Nat => (((winsD d b).take t).filter fun f => decide (f.pick = (i : Int))).length
theorem cntW_len (d : DesN) (b t : Nat) : (cntW d b t).length = d.rows.length := by simp [cntW]
theorem cntW_zero (d : DesN) (b : Nat) : natsV (cntW d b 0) = List.replicate d.rows.length (iv 0) := by
 unfold natsV cntW
 apply List.ext_getElem
 ·simp
 ·intro i h1 h2
  simp
theorem cntW_get {d : DesN} {b t p : Nat} (hp : p < d.rows.length) : (cntW d b t).getD p 0 = (((winsD d b).take t).filter fun f => decide (f.pick = (p : Int))).length := by
 unfold cntW
 rw [List.getD_eq_getElem?_getD, List.getElem?_map, List.getElem?_range hp]; rfl
theorem cntW_set {d : DesN} {b t p : Nat} (ht : t < (winsD d b).length) (hp : ((winsD d b)[t]).pick = (p : Int)) (hpl : p < d.rows.length) : (natsV (cntW d b t)).set p (iv (((cntW d b t).getD p 0 : Nat) + 1 : Nat)) = natsV (cntW d b (t + 1)) := by
 rw [cntW_get hpl]
 unfold natsV cntW
 apply List.ext_getElem
 ·simp
 ·intro i h1 h2
  rw [List.getElem_set]
  simp only [List.getElem_map, List.getElem_range]
  rw [List.take_succ_eq_append_getElem ht, List.filter_append, List.length_append]
  by_cases e : p = i
  ·subst e
   rw [if_pos rfl, List.filter_cons, if_pos (by rw [hp]; exact decide_eq_true rfl)]; simp
  ·rw [if_neg e, List.filter_cons, if_neg (by rw [hp]; simpa using fun h => e (by omega))]; simp
theorem wins_in {d : DesN} {b : Nat} {f : FloatT} (h : f ∈ winsD d b) : ∃ p : Nat, p < d.rows.length ∧ f.pick = (p : Int) := by
 rw [winsD_eq] at h
 obtain ⟨i, hi, hf⟩ := List.mem_flatMap.1 h
 exact ⟨i, List.mem_range.1 hi, win_pick hf⟩
theorem cntW_le (d : DesN) (b t p : Nat) (hp : p < d.rows.length) : (cntW d b t).getD p 0 ≤ (winsD d b).length := by
 rw [cntW_get hp]
 refine Nat.le_trans (List.length_filter_le _ _) ?_
 rw [List.length_take]; omega
end Go.Abs
