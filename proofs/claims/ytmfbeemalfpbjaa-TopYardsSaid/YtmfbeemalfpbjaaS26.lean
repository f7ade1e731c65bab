/-
  Chapter 7, cutting: the contract of the program's plans: for each set of lengths how they are cut out of the shortest piece.
-/
import Derived.Test.YtmfbeemalfpbjaaS25
set_option linter.all false
namespace Go.Abs
set_option maxRecDepth 10000
set_option maxHeartbeats 1000000

structure Plan where
  last : Int
  start : Int
  fin : Int
def Plan.av (p : Plan) : AV := .agg [iv p.last, iv p.start, iv p.fin]
@[go_sem] theorem plan_plain (l : List Plan) : (l.map Plan.av).all AV.plain = true := by
  simp [Plan.av, AV.plain, AV.plain1]
def planAt (l : List Plan) (s : Nat) : Plan := l[s]?.getD ⟨0, 0, 0⟩
theorem planAt_eq {l : List Plan} {s : Nat} (h : s < l.length) : l[s]? = some (planAt l s) := by simp [planAt, h]

def PlanOk (r : Int) (bad : List Int) (l : List Cut) (s : Nat) (p : Plan) : Prop :=
  Best r bad l s.testBit 0 p.fin ∧ (s ≠ 0 → ∃ i : Nat, i < l.length ∧ s.testBit i = true ∧ p.last = i ∧ ∃ e, 0 ≤ e ∧ Best r bad l (andN s (2 ^ i)).testBit 0 e ∧ p.start = startF r bad (cutAt l i) e ∧ p.fin = p.start + (cutAt l i).p)

/-- what is known of a set, some of whose lengths were tried as the last one -/
def InnP (r : Int) (bad : List Int) (l : List Cut) (s : Nat) (es : Nat → Int) (i : Nat) (b : Plan) : Prop :=
  (b.fin = -1 ∧ ∀ j, j < i → s.testBit j = false) ∨ (∃ j, j < i ∧ s.testBit j = true ∧ b.last = j ∧ b.start = startF r bad (cutAt l j) (es j) ∧ b.fin = endF r bad l (es j) j ∧ ∀ j', j' < i → s.testBit j' = true → b.fin ≤ endF r bad l (es j') j')

theorem innP_ok {r : Int} {bad : List Int} {l : List Cut} (hv : CutsOk r bad l) {s : Nat} (hs : s < 2 ^ l.length) (h0 : s ≠ 0) {es : Nat → Int} (he : ∀ i, i < l.length → s.testBit i = true → 0 ≤ es i ∧ Best r bad l (andN s (2 ^ i)).testBit 0 (es i)) {b : Plan} (h : InnP r bad l s es l.length b) : PlanOk r bad l s b := by
  have hs63 : s < 9223372036854775808 := by
    have : 2 ^ l.length ≤ 2 ^ 8 := Nat.pow_le_pow_right (by omega) hv.ll
    omega
  have hl : ∀ i, i < l.length → s.testBit i = true → Best r bad l (less s.testBit i) 0 (es i) := fun i h1 h2 => best_congr (fun j hj => by rw [andN_pow hs63]; rfl) (he i h1 h2).2
  rcases h with ⟨_, h2⟩ | ⟨j, h1, h2, h3, h4, h5, h6⟩
  · obtain ⟨j, hj⟩ := Nat.exists_testBit_of_ne_zero h0
    by_cases c : j < l.length
    · rw [h2 j c] at hj; cases hj
    · rw [Nat.testBit_lt_two_pow (Nat.lt_of_lt_of_le hs (Nat.pow_le_pow_right (by omega) (by omega)))] at hj; cases hj
  · refine ⟨best_last (es := es) (xs := fun i => endF r bad l (es i) i) (fun i hi a c h1 h2 => endF_mono hv hi h1 h2) (fun o ho => (comp_bound (p := fun _ => true) hv (Int.le_refl 0) ho).1) hl (fun _ _ _ => rfl) ⟨j, h1, h2, h5.symm⟩ h6, fun _ => ⟨j, h1, h2, h3, es j, (he j h1 h2).1, (he j h1 h2).2, h4, by rw [h5, h4]; rfl⟩⟩

theorem plans_ok (r : Int) (bad : List Int) (l : List Cut) (hv : CutsOk r bad l) :
    ∃ q, lim F 32 [tailorV r bad l] = some q ∧ ∃ P : List Plan, q = (.own 3 (P.map Plan.av), []) ∧ P.length = 2 ^ l.length ∧ ∀ s, s < 2 ^ l.length → PlanOk r bad l s (planAt P s) := by
  have hl8 := hv.ll
  have hlb := hv.lb
  have hN : 2 ^ l.length ≤ 256 := Nat.le_trans (Nat.pow_le_pow_right (n := 2) (by omega) hl8) (by omega)
  have hN0 : 0 < 2 ^ l.length := Nat.pow_pos (by omega)
  have hshl := w_shl1 l.length (by omega)
  have hok := fun {s : Nat} hs h0 {es : Nat → Int} he {b : Plan} h => innP_ok hv (s := s) hs h0 (es := es) he (b := b) h
  have hstart := fun c f h1 h2 h3 => start_ok r bad l c f hv.rr (by omega) hv.bb h1 h2 h3
  simp only [tailorV] at hstart
  generalize hNN : 2 ^ l.length = N at *
  unfold tailorV
  refine lim_ex (fn := a32) (k := 1) (res := [.tmp 2]) rfl rfl rfl (by simp -implicitDefEqProofs (maxSteps := 2000000) (disch := first | exact tt_rfl rfl | omega | (simp only [go_sem] <;> omega) | fail) only [go_sem]) ?_
  simp -implicitDefEqProofs (maxSteps := 2000000) (disch := first | exact tt_rfl rfl | omega | (simp only [go_sem] <;> omega) | fail) only [go_sem]
  repeat (first | apply Wp.seqA | apply Wp.skipS | apply Wp.blockS | ((first | apply Wp.regS | apply Wp.condV | apply Wp.reg | apply Wp.condW | apply fin_ret); simp -implicitDefEqProofs (maxSteps := 2000000) (disch := first | exact tt_rfl rfl | omega | (simp only [go_sem] <;> omega) | fail) only [go_sem, hshl] <;> try with_reducible rfl) | apply Wp.block | apply Wp.exitS | apply Wp.retS | apply Wp.exit | apply Wp.ret | apply Wp.skip)
  apply Wp.loopN N (fun k fr => ∃ P : List Plan, fr = ⟨[(1, .ptr 64 0 0), (3, .slice 192 0 N), (4, iv (k + 1 : Nat))], [(64, .box [iv r, .list 1 (bad.map fun n => iv n), .list 2 (l.map Cut.av)]), (192, .arr 3 (P.map Plan.av))], [], 10000000⟩ ∧
    P.length = N ∧ ∀ s, s ≤ k → s < N → PlanOk r bad l s (planAt P s))
  · simp -implicitDefEqProofs (maxSteps := 2000000) (disch := first | exact tt_rfl rfl | omega | (simp only [go_sem] <;> omega) | fail) only [go_sem, norm_eq, Ok.some]
    refine ⟨List.replicate N ⟨0, 0, 0⟩, by simp [Plan.av], by simp, fun s h1 h2 => ?_⟩
    obtain rfl : s = 0 := by omega
    refine ⟨?_, fun h => absurd rfl h⟩
    have : planAt (List.replicate N ⟨0, 0, 0⟩) 0 = ⟨0, 0, 0⟩ := by simp [planAt, List.getElem?_replicate, hN0]
    rw [this]
    exact (best_none fun i _ => Nat.zero_testBit i).2 rfl
  rintro k fr hk ⟨P, rfl, hlP, hP⟩
  by_cases hkN : k + 1 < N
  · have hlt : ((k + 1 : Nat) : Int) < N := by omega
    generalize hs : k + 1 = s at *
    have hs63 : s < 9223372036854775808 := by omega
    have hes : ∀ i, i < l.length → s.testBit i = true → 0 ≤ (planAt P (andN s (2 ^ i))).fin ∧ Best r bad l (andN s (2 ^ i)).testBit 0 (planAt P (andN s (2 ^ i))).fin := by
      intro i h1 h2
      have := andN_lt hs63 h2
      have := (hP (andN s (2 ^ i)) (by omega) (by omega)).1
      exact ⟨(best_bound hv (Int.le_refl 0) this).1, this⟩
    have hfin := fun b h => hok (s := s) (b := b) (by omega) (by omega) hes h
    repeat (first | apply Wp.seqA | apply Wp.skipS | apply Wp.blockS | ((first | apply Wp.regS | apply Wp.condV | apply Wp.reg | apply Wp.condW | apply fin_ret); simp -implicitDefEqProofs (maxSteps := 2000000) (disch := first | exact tt_rfl rfl | omega | (simp only [go_sem] <;> omega) | fail) only [go_sem, hlt] <;> try with_reducible rfl) | apply Wp.block | apply Wp.exitS | apply Wp.retS | apply Wp.exit | apply Wp.ret | apply Wp.skip)
    apply Wp.loopN l.length (fun i fr => ∃ b : Plan, fr = ⟨[(1, .ptr 64 0 0), (3, .slice 192 0 N), (4, iv s), (5, .ptr 320 0 0), (22, .list 2 (l.map Cut.av)), (23, iv l.length), (24, iv i)],
      [(64, .box [iv r, .list 1 (bad.map fun n => iv n), .list 2 (l.map Cut.av)]), (192, .arr 3 (P.map Plan.av)), (320, .box [iv b.last, iv b.start, iv b.fin])], [], 10000000⟩ ∧ InnP r bad l s (fun i => (planAt P (andN s (2 ^ i))).fin) i b)
    · simp -implicitDefEqProofs (maxSteps := 2000000) (disch := first | exact tt_rfl rfl | omega | (simp only [go_sem] <;> omega) | fail) only [go_sem, norm_eq, Ok.some]
      exact ⟨⟨0, 0, -1⟩, rfl, .inl ⟨rfl, fun j hj => by omega⟩⟩
    rintro i fr hi ⟨b, rfl, hb⟩
    by_cases h : i < l.length
    · have hc := cutAt_eq h
      have hcv := hv.cc _ (cutAt_mem h)
      have f1 := w_shr s i (by omega)
      have hsr : s >>> i < 9223372036854775808 := by
        rw [Nat.shiftRight_eq_div_pow]; exact Nat.lt_of_le_of_lt (Nat.div_le_self _ _) hs63
      have f2 := w_and1 (s >>> i) hsr
      rw [shr_and1] at f2
      cases hbit : s.testBit i with
      | false =>
        rw [hbit] at f2
        simp only [Bool.false_eq_true, if_false] at f2
        have hb' : InnP r bad l s (fun i => (planAt P (andN s (2 ^ i))).fin) (i + 1) b := by
          rcases hb with ⟨h1, h2⟩ | ⟨j, h1, h2, h3, h4, h5, h6⟩
          · refine .inl ⟨h1, fun j hj => ?_⟩
            by_cases e : j = i
            · subst e; exact hbit
            · exact h2 j (by omega)
          · refine .inr ⟨j, by omega, h2, h3, h4, h5, fun j' q1 q2 => ?_⟩
            by_cases e : j' = i
            · subst e; rw [hbit] at q2; cases q2
            · exact h6 j' (by omega) q2
        clear hv hok hP hes hfin hstart hb
        repeat (first | apply Wp.seqA | apply Wp.skipS | apply Wp.blockS | ((first | apply Wp.regS | apply Wp.condV | apply Wp.reg | apply Wp.condW | apply fin_ret); simp -implicitDefEqProofs (maxSteps := 2000000) (disch := first | exact tt_rfl rfl | omega | (simp only [go_sem] <;> omega) | fail) only [go_sem, h, Int.ofNat_lt, List.getElem?_map, hc, Option.map_some, Cut.av.eq_1, f1, f2] <;> try with_reducible rfl) | apply Wp.block | apply Wp.exitS | apply Wp.retS | apply Wp.exit | apply Wp.ret | apply Wp.skip)
        apply round_next
        · simp -implicitDefEqProofs (maxSteps := 2000000) (disch := first | exact tt_rfl rfl | omega | (simp only [go_sem] <;> omega) | fail) only [go_sem, norm_eq, Ok.some]; with_reducible rfl
        exact ⟨h, b, by simp, hb'⟩
      | true =>
        rw [hbit] at f2
        simp only [if_true] at f2
        have f3 := w_shl1 i (by omega)
        have f4 := w_andN s (2 ^ i) hs63
        have hlt2 := andN_lt hs63 hbit
        have hx := planAt_eq (l := P) (s := andN s (2 ^ i)) (by omega)
        obtain ⟨he0, heB⟩ := hes i h hbit
        have heb := best_bound hv (Int.le_refl 0) heB
        have hst := hstart (cutAt l i) (planAt P (andN s (2 ^ i))).fin hcv.1 hcv.2 ⟨he0, by omega⟩
        have hsb := start_spec (r := r) (bad := bad) (c := cutAt l i) hv.rr hv.bb hcv.2 he0
        have hsb1 := hsb.1.le
        have hsb2 := hsb.2
        have hend : startF r bad (cutAt l i) (planAt P (andN s (2 ^ i))).fin + (cutAt l i).p = endF r bad l (planAt P (andN s (2 ^ i))).fin i := rfl
        have hnew : ∀ b' : Plan, (b.fin < 0 ∨ endF r bad l (planAt P (andN s (2 ^ i))).fin i < b.fin) → b' = ⟨i, startF r bad (cutAt l i) (planAt P (andN s (2 ^ i))).fin, endF r bad l (planAt P (andN s (2 ^ i))).fin i⟩ → InnP r bad l s (fun i => (planAt P (andN s (2 ^ i))).fin) (i + 1) b' := by
          rintro b' hlt rfl
          refine .inr ⟨i, by omega, hbit, rfl, rfl, rfl, fun j' q1 q2 => ?_⟩
          by_cases e : j' = i
          · subst e; exact Int.le_refl _
          · rcases hb with ⟨h1, h2⟩ | ⟨j, h1, h2, h3, h4, h5, h6⟩
            · have := h2 j' (by omega); rw [this] at q2; cases q2
            · have k1 := h6 j' (by omega) q2
              have k2 := endF_bound hv (hes j (by omega) h2).1 (i := j) (by omega)
              have k3 := (hes j (by omega) h2).1
              dsimp only at k1 h5 ⊢
              omega
        have hold : ¬ (b.fin < 0 ∨ endF r bad l (planAt P (andN s (2 ^ i))).fin i < b.fin) → InnP r bad l s (fun i => (planAt P (andN s (2 ^ i))).fin) (i + 1) b := by
          intro hge
          rcases hb with ⟨h1, h2⟩ | ⟨j, h1, h2, h3, h4, h5, h6⟩
          · omega
          · refine .inr ⟨j, by omega, h2, h3, h4, h5, fun j' q1 q2 => ?_⟩
            by_cases e : j' = i
            · subst e; dsimp only; omega
            · exact h6 j' (by omega) q2
        have hbb : b.fin ≤ 1000000 := by
          rcases hb with ⟨h1, _⟩ | ⟨j, h1, h2, h3, h4, h5, h6⟩
          · omega
          · have k2 := endF_bound hv (hes j (by omega) h2).1 (i := j) (by omega)
            have k3 := best_bound hv (Int.le_refl 0) (hes j (by omega) h2).2
            dsimp only at h5
            omega
        have hltN : (andN s (2 ^ i) : Int) < N := by omega
        clear hv hok hP hes hfin hstart hb hsb heB
        generalize endF r bad l (planAt P (andN s (2 ^ i))).fin i = en at *
        generalize startF r bad (cutAt l i) (planAt P (andN s (2 ^ i))).fin = st at *
        generalize hpa : planAt P (andN s (2 ^ i)) = pa at *
        by_cases q1 : b.fin < 0
        · repeat (first | apply Wp.seqA | apply Wp.skipS | apply Wp.blockS | ((first | apply Wp.regS | apply Wp.condV | apply Wp.reg | apply Wp.condW | apply fin_ret); simp -implicitDefEqProofs (maxSteps := 2000000) (disch := first | exact tt_rfl rfl | omega | (simp only [go_sem] <;> omega) | fail) only [go_sem, h, Int.ofNat_lt, List.getElem?_map, hc, hx, Option.map_some, Cut.av.eq_1, Plan.av.eq_1, f1, f2, f3, f4, hst, hend, hltN, q1] <;> try with_reducible rfl) | apply Wp.block | apply Wp.exitS | apply Wp.retS | apply Wp.exit | apply Wp.ret | apply Wp.skip)
          apply round_next
          · simp -implicitDefEqProofs (maxSteps := 2000000) (disch := first | exact tt_rfl rfl | omega | (simp only [go_sem] <;> omega) | fail) only [go_sem, norm_eq, Ok.some]; with_reducible rfl
          exact ⟨h, ⟨i, st, en⟩, by simp, hnew _ (.inl q1) rfl⟩
        · by_cases q2 : en < b.fin
          · repeat (first | apply Wp.seqA | apply Wp.skipS | apply Wp.blockS | ((first | apply Wp.regS | apply Wp.condV | apply Wp.reg | apply Wp.condW | apply fin_ret); simp -implicitDefEqProofs (maxSteps := 2000000) (disch := first | exact tt_rfl rfl | omega | (simp only [go_sem] <;> omega) | fail) only [go_sem, h, Int.ofNat_lt, List.getElem?_map, hc, hx, Option.map_some, Cut.av.eq_1, Plan.av.eq_1, f1, f2, f3, f4, hst, hend, hltN, q1, q2] <;> try with_reducible rfl) | apply Wp.block | apply Wp.exitS | apply Wp.retS | apply Wp.exit | apply Wp.ret | apply Wp.skip)
            apply round_next
            · simp -implicitDefEqProofs (maxSteps := 2000000) (disch := first | exact tt_rfl rfl | omega | (simp only [go_sem] <;> omega) | fail) only [go_sem, norm_eq, Ok.some]; with_reducible rfl
            exact ⟨h, ⟨i, st, en⟩, by simp, hnew _ (.inr q2) rfl⟩
          · repeat (first | apply Wp.seqA | apply Wp.skipS | apply Wp.blockS | ((first | apply Wp.regS | apply Wp.condV | apply Wp.reg | apply Wp.condW | apply fin_ret); simp -implicitDefEqProofs (maxSteps := 2000000) (disch := first | exact tt_rfl rfl | omega | (simp only [go_sem] <;> omega) | fail) only [go_sem, h, Int.ofNat_lt, List.getElem?_map, hc, hx, Option.map_some, Cut.av.eq_1, Plan.av.eq_1, f1, f2, f3, f4, hst, hend, hltN, q1, q2] <;> try with_reducible rfl) | apply Wp.block | apply Wp.exitS | apply Wp.retS | apply Wp.exit | apply Wp.ret | apply Wp.skip)
            apply round_next
            · simp -implicitDefEqProofs (maxSteps := 2000000) (disch := first | exact tt_rfl rfl | omega | (simp only [go_sem] <;> omega) | fail) only [go_sem, norm_eq, Ok.some]; with_reducible rfl
            exact ⟨h, b, by simp, hold fun h => h.elim q1 q2⟩
    · obtain rfl : i = l.length := by omega
      have hPs := hfin b hb
      have hset : (P.map Plan.av).set s (.agg [iv b.last, iv b.start, iv b.fin]) = (P.set s b).map Plan.av := by rw [List.map_set]; rfl
      have hxs : P[s]? = some (planAt P s) := planAt_eq (by omega)
      clear hok hfin hes hstart
      repeat (first | apply Wp.seqA | apply Wp.skipS | apply Wp.blockS | ((first | apply Wp.regS | apply Wp.condV | apply Wp.reg | apply Wp.condW | apply fin_ret); simp -implicitDefEqProofs (maxSteps := 2000000) (disch := first | exact tt_rfl rfl | omega | (simp only [go_sem] <;> omega) | fail) only [go_sem, Int.lt_irrefl, hset, List.getElem?_map, hxs, Option.map_some, Plan.av.eq_1] <;> try with_reducible rfl) | apply Wp.block | apply Wp.exitS | apply Wp.retS | apply Wp.exit | apply Wp.ret | apply Wp.skip)
      apply round_next
      · simp -implicitDefEqProofs (maxSteps := 2000000) (disch := first | exact tt_rfl rfl | omega | (simp only [go_sem] <;> omega) | fail) only [go_sem, norm_eq, Ok.some]; with_reducible rfl
      refine ⟨by omega, P.set s b, by simp, by simp [hlP], fun s' h1 h2 => ?_⟩
      by_cases e : s' = s
      · subst e
        have : planAt (P.set s' b) s' = b := by simp [planAt, List.getElem?_set_self (show s' < P.length by omega)]
        rw [this]; exact hPs
      · have : planAt (P.set s b) s' = planAt P s' := by
          unfold planAt
          rw [List.getElem?_set_ne (fun h => e h.symm)]
        rw [this]; exact hP s' (by omega) h2
  · have hlt : ¬ ((k + 1 : Nat) : Int) < N := by omega
    clear hok hstart
    repeat (first | apply Wp.seqA | apply Wp.skipS | apply Wp.blockS | ((first | apply Wp.regS | apply Wp.condV | apply Wp.reg | apply Wp.condW | apply fin_ret); simp -implicitDefEqProofs (maxSteps := 2000000) (disch := first | exact tt_rfl rfl | omega | (simp only [go_sem] <;> omega) | fail) only [go_sem, hlt] <;> try with_reducible rfl) | apply Wp.block | apply Wp.exitS | apply Wp.retS | apply Wp.exit | apply Wp.ret | apply Wp.skip)
    refine finp_ret (r := (.own 3 (P.map Plan.av), [])) ?_ ⟨P, rfl, hlP, fun s hs => hP s (by omega) hs⟩
    simp -implicitDefEqProofs (maxSteps := 2000000) (disch := first | exact tt_rfl rfl | omega | (simp only [go_sem] <;> omega) | fail) only [go_sem, hlP]
end Go.Abs

