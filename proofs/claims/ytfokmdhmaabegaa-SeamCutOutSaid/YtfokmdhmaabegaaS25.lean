/-
  Chapter 7, cutting: the contract of the reference's Need: the least of all orders.
-/
import Derived.Test.YtfokmdhmaabegaaS24
set_option linter.all false
namespace Go.Abs
set_option maxRecDepth 10000
set_option maxHeartbeats 1000000

@[go_sem] theorem bool_plain (l : List Bool) : (l.map AV.bool).all AV.plain = true := by
  simp [AV.plain, AV.plain1]

def isFree (used : List Bool) (i : Nat) : Bool := !(used[i]?.getD true)
theorem free_set {used : List Bool} {i j : Nat} (hj : j < used.length) (hi : i < used.length) : isFree (used.set i true) j = less (isFree used) i j := by
  unfold isFree less
  by_cases e : j = i
  · subst e; simp [hj]
  · have : ¬ i = j := fun h => e h.symm
    simp [List.getElem?_set, this, e]

theorem Need_ok (r : Int) (bad : List Int) (l : List Cut) (hv : CutsOk r bad l) : ∀ (k : Nat) (used : List Bool) (f x : Int), used.length = l.length → ((List.range l.length).filter (isFree used)).length = k → 0 ≤ f → f + 300 * k ≤ 1000000 → Best r bad l (isFree used) f x →
    lim F 44 [iv r, .list 1 (bad.map fun n => iv n), .list 2 (l.map Cut.av), .borS 1 (used.map AV.bool), iv f] = some (iv x, [.borS 1 (used.map AV.bool)]) := by
  intro k
  induction k using Nat.strongRecOn with
  | ind k ih =>
  intro used f x hlu hk hf hfk hB
  have hl8 := hv.ll
  have hlb := hv.lb
  have hk8 : k ≤ 8 := by
    have := List.length_filter_le (isFree used) (List.range l.length)
    rw [hk, List.length_range] at this
    omega
  have hxs : ∀ i, ∃ y, (i < l.length → isFree used i = true → Best r bad l (less (isFree used) i) (endF r bad l f i) y) := by
    intro i
    by_cases h : i < l.length ∧ isFree used i = true
    · obtain ⟨y, hy⟩ := best_exists hv _ (less (isFree used) i) (endF r bad l f i) rfl
      exact ⟨y, fun _ _ => hy⟩
    · exact ⟨0, fun h1 h2 => absurd ⟨h1, h2⟩ h⟩
  obtain ⟨xs, hxs⟩ := Classical.axiomOfChoice hxs
  have hxb : ∀ i, i < l.length → isFree used i = true → xs i ≤ 2000000 := by
    intro i h1 h2
    have := endF_bound hv hf h1
    have := best_bound hv (by omega) (hxs i h1 h2)
    omega
  refine lim_by (fn := a44) (k := 5) (res := [.tmp 10]) rfl rfl rfl (by simp -implicitDefEqProofs (maxSteps := 2000000) (disch := first | exact tt_rfl rfl | omega | (simp only [go_sem] <;> omega) | fail) only [go_sem]) ?_
  simp -implicitDefEqProofs (maxSteps := 2000000) (disch := first | exact tt_rfl rfl | omega | (simp only [go_sem] <;> omega) | fail) only [go_sem]
  repeat (first | apply Wp.seqA | apply Wp.skipS | apply Wp.blockS | ((first | apply Wp.regS | apply Wp.condV | apply Wp.reg | apply Wp.condW | apply fin_ret); simp -implicitDefEqProofs (maxSteps := 2000000) (disch := first | exact tt_rfl rfl | omega | (simp only [go_sem] <;> omega) | fail) only [go_sem] <;> try with_reducible rfl) | apply Wp.block | apply Wp.exitS | apply Wp.retS | apply Wp.exit | apply Wp.ret | apply Wp.skip)
  apply Wp.loopN l.length (fun i fr => ∃ (best : Int) (any : Bool), fr = ⟨[(0, iv r), (1, .list 1 (bad.map fun n => iv n)), (2, .list 2 (l.map Cut.av)), (3, .slice 45000 0 used.length), (4, iv f), (11, iv best), (12, .bool any), (13, iv i)],
    [(45000, .arr 1 (used.map AV.bool))], [(45000, some used.length)], 1000000⟩ ∧ (any = true ↔ ∃ j, j < i ∧ isFree used j = true) ∧ (0 ≤ best ∧ best ≤ 1099511627776) ∧ (∀ j, j < i → isFree used j = true → best ≤ xs j) ∧
      (best = 1099511627776 ∨ ∃ j, j < i ∧ isFree used j = true ∧ best = xs j))
  · simp -implicitDefEqProofs (maxSteps := 2000000) (disch := first | exact tt_rfl rfl | omega | (simp only [go_sem] <;> omega) | fail) only [go_sem, norm_eq, Ok.some]
    exact ⟨_, false, rfl, by simp, by omega, fun j hj => by omega, .inl rfl⟩
  rintro i fr hi ⟨best, any, rfl, ha, hb0, hb1, hb2⟩
  by_cases h : i < l.length
  · have hui : i < used.length := by omega
    have hget : used[i]? = some used[i] := List.getElem?_eq_getElem hui
    by_cases hu : used[i] = true
    · have hfr : isFree used i = false := by simp [isFree, hget, hu]
      rw [hu] at hget
      clear ih hB hv hxs hxb
      repeat (first | apply Wp.seqA | apply Wp.skipS | apply Wp.blockS | ((first | apply Wp.regS | apply Wp.condV | apply Wp.reg | apply Wp.condW | apply fin_ret); simp -implicitDefEqProofs (maxSteps := 2000000) (disch := first | exact tt_rfl rfl | omega | (simp only [go_sem] <;> omega) | fail) only [go_sem, h, Int.ofNat_lt, List.getElem?_map, hget, Option.map_some, hui] <;> try with_reducible rfl) | apply Wp.block | apply Wp.exitS | apply Wp.retS | apply Wp.exit | apply Wp.ret | apply Wp.skip)
      apply round_next
      · simp -implicitDefEqProofs (maxSteps := 2000000) (disch := first | exact tt_rfl rfl | omega | (simp only [go_sem] <;> omega) | fail) only [go_sem, norm_eq, Ok.some]; with_reducible rfl
      refine ⟨h, best, any, by simp, ?_, hb0, ?_, ?_⟩
      · rw [ha]
        constructor
        · rintro ⟨j, h1, h2⟩; exact ⟨j, by omega, h2⟩
        · rintro ⟨j, h1, h2⟩
          by_cases e : j = i
          · subst e; rw [hfr] at h2; cases h2
          · exact ⟨j, by omega, h2⟩
      · intro j h1 h2
        by_cases e : j = i
        · subst e; rw [hfr] at h2; cases h2
        · exact hb1 j (by omega) h2
      · rcases hb2 with h1 | ⟨j, h1, h2⟩
        · exact .inl h1
        · exact .inr ⟨j, by omega, h2⟩
    · have hu' : used[i] = false := by simpa using hu
      have hfr : isFree used i = true := by simp [isFree, hget, hu']
      rw [hu'] at hget
      have hc := cutAt_eq h
      have hcv := hv.cc _ (cutAt_mem h)
      have hs := refStart_ok r bad (cutAt l i) f hv.rr (by omega) hv.bb hcv.1 hcv.2 ⟨hf, by omega⟩
      have he := endF_bound hv hf h
      have hss := start_spec hv.rr hv.bb hcv.2 hf
      have hcnt : ((List.range l.length).filter (isFree (used.set i true))).length + 1 ≤ k := by
        have e : (List.range l.length).filter (isFree (used.set i true)) = ((List.range l.length).filter (isFree used)).erase i := by
          rw [List.Nodup.erase_eq_filter (List.nodup_range.filter _), List.filter_filter]
          apply List.filter_congr
          intro j hj
          have hj := List.mem_range.1 hj
          rw [free_set (by omega) hui]
          unfold less
          by_cases e : j = i
          · subst e; simp
          · simp [e]
        have hm : i ∈ (List.range l.length).filter (isFree used) := List.mem_filter.2 ⟨List.mem_range.2 h, hfr⟩
        rw [e, List.length_erase_of_mem hm, hk]
        have : 0 < k := by rw [← hk]; exact List.length_pos_of_mem hm
        omega
      have hN := ih _ (by omega) (used.set i true) (endF r bad l f i) (xs i) (by simp [hlu]) rfl (by omega) (by omega) (best_congr (fun j hj => (free_set (by omega) hui).symm) (hxs i h hfr))
      have hxbi := hxb i h hfr
      have hxn := (best_bound hv (by omega) (hxs i h hfr)).1
      have hend : startF r bad (cutAt l i) f + (cutAt l i).p = endF r bad l f i := rfl
      have hset : (used.map AV.bool).set i (.bool true) = (used.set i true).map AV.bool := by rw [List.map_set]
      have hback : ((used.set i true).map AV.bool).set i (.bool false) = used.map AV.bool := by
        rw [← List.map_set, List.set_set]
        congr 1
        apply List.ext_getElem? ; intro j
        by_cases e : i = j
        · subst e; rw [List.getElem?_set_self hui, hget]
        · rw [List.getElem?_set_ne e]
      have hxi : (used.set i true)[i]? = some true := by rw [List.getElem?_set_self hui]
      have hne : ¬ used.length = 0 := by omega
      have hss1 := hss.2
      have hss2 := hss.1.le
      clear ih hB hv hxs hxb hss
      generalize endF r bad l f i = e1 at *
      generalize startF r bad (cutAt l i) f = s1 at *
      repeat (first | apply Wp.seqA | apply Wp.skipS | apply Wp.blockS | ((first | apply Wp.regS | apply Wp.condV | apply Wp.reg | apply Wp.condW | apply fin_ret); simp -implicitDefEqProofs (maxSteps := 2000000) (disch := first | exact tt_rfl rfl | omega | (simp only [go_sem] <;> omega) | fail) only [go_sem, h, Int.ofNat_lt, List.getElem?_map, hget, hc, Option.map_some, Cut.av.eq_1, hui, hset, hs, hend, hN, hback, hxi, hne] <;> try with_reducible rfl) | apply Wp.block | apply Wp.exitS | apply Wp.retS | apply Wp.exit | apply Wp.ret | apply Wp.skip)
      apply round_next
      · simp -implicitDefEqProofs (maxSteps := 2000000) (disch := first | exact tt_rfl rfl | omega | (simp only [go_sem] <;> omega) | fail) only [go_sem, norm_eq, Ok.some]; with_reducible rfl
      refine ⟨h, min best (xs i), true, by simp, ?_, by omega, ?_, ?_⟩
      · simp only [true_iff]; exact ⟨i, by omega, hfr⟩
      · intro j h1 h2
        by_cases e : j = i
        · subst e; omega
        · have := hb1 j (by omega) h2; omega
      · by_cases q : xs i ≤ best
        · exact .inr ⟨i, by omega, hfr, by omega⟩
        · rcases hb2 with h1 | ⟨j, h1, h2, h3⟩
          · exact .inl (by omega)
          · exact .inr ⟨j, by omega, h2, by omega⟩
  · obtain rfl : i = l.length := by omega
    cases any with
    | false =>
      have hno : ∀ i, i < l.length → isFree used i = false := by
        intro i hi
        cases hc : isFree used i with
        | false => rfl
        | true => have := ha.2 ⟨i, hi, hc⟩; cases this
      rw [(best_none hno).1 hB]
      clear ih hB hv hxs hxb
      repeat (first | apply Wp.seqA | apply Wp.skipS | apply Wp.blockS | ((first | apply Wp.regS | apply Wp.condV | apply Wp.reg | apply Wp.condW | apply fin_ret); simp -implicitDefEqProofs (maxSteps := 2000000) (disch := first | exact tt_rfl rfl | omega | (simp only [go_sem] <;> omega) | fail) only [go_sem, Int.lt_irrefl] <;> try with_reducible rfl) | apply Wp.block | apply Wp.exitS | apply Wp.retS | apply Wp.exit | apply Wp.ret | apply Wp.skip)
    | true =>
      have e : x = best := by
        refine hB.uniq (best_first (xs := xs) (fun i h1 h2 => hxs i h1 h2) ?_ fun i h1 h2 => hb1 i h1 h2)
        rcases hb2 with h1 | ⟨j, h1, h2, h3⟩
        · obtain ⟨j, q1, q2⟩ := ha.1 rfl
          have := hb1 j q1 q2
          have := hxb j q1 q2
          omega
        · exact ⟨j, h1, h2, h3.symm⟩
      rw [e]
      clear ih hB hv hxs hxb
      repeat (first | apply Wp.seqA | apply Wp.skipS | apply Wp.blockS | ((first | apply Wp.regS | apply Wp.condV | apply Wp.reg | apply Wp.condW | apply fin_ret); simp -implicitDefEqProofs (maxSteps := 2000000) (disch := first | exact tt_rfl rfl | omega | (simp only [go_sem] <;> omega) | fail) only [go_sem, Int.lt_irrefl] <;> try with_reducible rfl) | apply Wp.block | apply Wp.exitS | apply Wp.retS | apply Wp.exit | apply Wp.ret | apply Wp.skip)
end Go.Abs
