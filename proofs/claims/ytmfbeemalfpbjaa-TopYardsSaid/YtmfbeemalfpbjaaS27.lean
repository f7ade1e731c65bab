/-
  Chapter 7, cutting: the contract of Cut.
-/
import Derived.Test.YtmfbeemalfpbjaaS26
set_option linter.all false
namespace Go.Abs
set_option maxRecDepth 10000
set_option maxHeartbeats 1000000

def stAt (l : List Int) (i : Nat) : Int := l[i]?.getD 0
theorem stAt_eq {l : List Int} {i : Nat} (h : i < l.length) : l[i]? = some (stAt l i) := by simp [stAt, h]
theorem stAt_set {l : List Int} {i j : Nat} (h : i < l.length) (x : Int) : stAt (l.set i x) j = if j = i then x else stAt l j := by
  unfold stAt
  by_cases e : j = i
  · subst e; rw [List.getElem?_set_self h]; simp
  · rw [List.getElem?_set_ne (fun h => e h.symm), if_neg e]

/-- one length lies where it may -/
structure CutFits (r : Int) (bad : List Int) (c : Cut) (need x : Int) : Prop where
  pos : 0 ≤ x
  rem : x % r = c.b
  fine : FineAt bad x c.p
  fin : x + c.p ≤ need
structure CutsFit (r : Int) (bad : List Int) (l : List Cut) (need : Int) (st : List Int) : Prop where
  len : st.length = l.length
  each : ∀ i, i < l.length → CutFits r bad (cutAt l i) need (stAt st i)
  apart : ∀ i k, i < l.length → k < l.length → i ≠ k → stAt st i + (cutAt l i).p ≤ stAt st k ∨ stAt st k + (cutAt l k).p ≤ stAt st i
  top : l.length ≠ 0 → ∃ i, i < l.length ∧ stAt st i + (cutAt l i).p = need
  none : l.length = 0 → need = 0

/-- some lengths were laid, those that a set has not -/
structure LaidCuts (r : Int) (bad : List Int) (l : List Cut) (P : List Plan) (need : Int) (s : Nat) (st : List Int) : Prop where
  each : ∀ i, i < l.length → s.testBit i = false → CutFits r bad (cutAt l i) need (stAt st i) ∧ (planAt P s).fin ≤ stAt st i
  apart : ∀ i k, i < l.length → k < l.length → i ≠ k → s.testBit i = false → s.testBit k = false → stAt st i + (cutAt l i).p ≤ stAt st k ∨ stAt st k + (cutAt l k).p ≤ stAt st i
  top : (planAt P s).fin = need ∨ ∃ i, i < l.length ∧ s.testBit i = false ∧ stAt st i + (cutAt l i).p = need
theorem laid_step {r : Int} {bad : List Int} {l : List Cut} (hv : CutsOk r bad l) {P : List Plan} {need : Int} {s : Nat} {st : List Int} (h : LaidCuts r bad l P need s st) (hP : ∀ s, s < 2 ^ l.length → PlanOk r bad l s (planAt P s)) (hl : st.length = l.length) (hs : s < 2 ^ l.length) (h0 : s ≠ 0) :
    ∃ i : Nat, i < l.length ∧ s.testBit i = true ∧ (planAt P s).last = i ∧ 0 ≤ (planAt P s).start ∧ LaidCuts r bad l P need (andN s (2 ^ i)) (st.set i (planAt P s).start) := by
  have hs63 : s < 9223372036854775808 := by
    have : 2 ^ l.length ≤ 2 ^ 8 := Nat.pow_le_pow_right (by omega) hv.ll
    omega
  obtain ⟨_, hex⟩ := hP s hs
  obtain ⟨i, h1, h2, h3, e, h4, h5, h6, h7⟩ := hex h0
  have hlt := andN_lt hs63 h2
  have hfe : (planAt P (andN s (2 ^ i))).fin = e := (hP _ (by omega)).1.uniq h5
  have hcv := hv.cc _ (cutAt_mem h1)
  obtain ⟨hst, _⟩ := start_spec (r := r) (bad := bad) (c := cutAt l i) hv.rr hv.bb hcv.2 h4
  rw [← h6] at hst
  have hle := hst.le
  have hfn : (planAt P s).fin ≤ need := by
    rcases h.top with q | ⟨j, q1, q2, q3⟩
    · omega
    · have := (h.each j q1 q2).2
      have := hv.cc _ (cutAt_mem q1)
      omega
  have hbit := fun j => andN_pow (s := s) (i := i) (j := j) hs63
  refine ⟨i, h1, h2, h3, by omega, ⟨fun j q1 q2 => ?_, fun j k q1 q2 q3 q4 q5 => ?_, ?_⟩⟩
  · rw [stAt_set (by omega), hfe]
    by_cases c : j = i
    · subst c
      rw [if_pos rfl]
      exact ⟨⟨by omega, hst.ok.1, hst.ok.2, by omega⟩, hle⟩
    · rw [if_neg c]
      rw [hbit] at q2
      have q2 : s.testBit j = false := by simpa [c] using q2
      obtain ⟨k1, k2⟩ := h.each j q1 q2
      exact ⟨k1, by omega⟩
  · rw [hbit] at q4 q5
    rw [stAt_set (by omega), stAt_set (by omega)]
    by_cases c : j = i
    · subst c
      have c2 : k ≠ j := fun e => q3 e.symm
      have q5 : s.testBit k = false := by simpa [c2] using q5
      rw [if_pos rfl, if_neg c2]
      have := (h.each k q2 q5).2
      left; omega
    · have q4' : s.testBit j = false := by simpa [c] using q4
      rw [if_neg c]
      by_cases c2 : k = i
      · subst c2
        rw [if_pos rfl]
        have := (h.each j q1 q4').2
        right; omega
      · have q5' : s.testBit k = false := by simpa [c2] using q5
        rw [if_neg c2]
        exact h.apart j k q1 q2 q3 q4' q5'
  · right
    rcases h.top with q | ⟨j, q1, q2, q3⟩
    · refine ⟨i, h1, by rw [hbit]; simp, ?_⟩
      rw [stAt_set (by omega), if_pos rfl]; omega
    · refine ⟨j, q1, by rw [hbit, q2]; rfl, ?_⟩
      have c : j ≠ i := fun e => by subst e; rw [h2] at q2; cases q2
      rw [stAt_set (by omega), if_neg c]; exact q3

theorem Cut_err (r : Int) (bad : List Int) (l : List Cut) (h : cutsE r bad l ≠ 0) : lim F 14 [iv r, .list 1 (bad.map fun n => iv n), .list 2 (l.map Cut.av)] = some (.tuple [.own 1 [], iv 0, iv (cutsE r bad l)], []) := by
  have hn := newTailor_ok r bad l
  rw [if_neg h] at hn
  simp only [tailor0] at hn
  refine lim_by (fn := a14) (k := 3) (res := [.tmp 6, .tmp 7, .tmp 8]) rfl rfl rfl (by simp -implicitDefEqProofs (maxSteps := 2000000) (disch := first | exact tt_rfl rfl | omega | (simp only [go_sem] <;> omega) | fail) only [go_sem]) ?_
  simp -implicitDefEqProofs (maxSteps := 2000000) (disch := first | exact tt_rfl rfl | omega | (simp only [go_sem] <;> omega) | fail) only [go_sem]
  repeat (first | apply Wp.seqA | apply Wp.skipS | apply Wp.blockS | ((first | apply Wp.regS | apply Wp.condV | apply Wp.reg | apply Wp.condW | apply fin_ret); simp -implicitDefEqProofs (maxSteps := 2000000) (disch := first | exact tt_rfl rfl | omega | (simp only [go_sem] <;> omega) | fail) only [go_sem, hn, h] <;> try with_reducible rfl) | apply Wp.block | apply Wp.exitS | apply Wp.retS | apply Wp.exit | apply Wp.ret | apply Wp.skip)

theorem Cut_ok (r : Int) (bad : List Int) (l : List Cut) (h : cutsE r bad l = 0) : ∃ q, lim F 14 [iv r, .list 1 (bad.map fun n => iv n), .list 2 (l.map Cut.av)] = some q ∧
    ∃ (st : List Int) (need : Int), q = (.tuple [.own 1 (st.map fun n => iv n), iv need, iv 0], []) ∧ Best r bad l (fun _ => true) 0 need ∧ CutsFit r bad l need st := by
  have hv := cutsE_zero h
  have hn := newTailor_ok r bad l
  rw [if_pos h, h] at hn
  obtain ⟨q, hp, P, rfl, hlP, hP⟩ := plans_ok r bad l hv
  simp only [tailorV] at hn hp
  have hl8 := hv.ll
  have hN : 2 ^ l.length ≤ 256 := Nat.le_trans (Nat.pow_le_pow_right (n := 2) (by omega) hl8) (by omega)
  have hN0 : 0 < 2 ^ l.length := Nat.pow_pos (by omega)
  have hbit : ∀ i, (2 ^ l.length - 1).testBit i = decide (i < l.length) := fun i => Nat.testBit_two_pow_sub_one _ _
  have hneed : Best r bad l (fun _ => true) 0 (planAt P (2 ^ l.length - 1)).fin := best_congr (fun i hi => by rw [hbit]; simp [hi]) (hP _ (by omega)).1
  have hzero : (planAt P 0).fin = 0 := (best_none fun i _ => Nat.zero_testBit i).1 (hP 0 hN0).1
  have hstep := fun {s : Nat} {st : List Int} (hL : LaidCuts r bad l P (planAt P (2 ^ l.length - 1)).fin s st) hl hs h0 => laid_step hv hL hP hl hs h0
  have hinit : LaidCuts r bad l P (planAt P (2 ^ l.length - 1)).fin (2 ^ l.length - 1) (List.replicate l.length 0) := by
    refine ⟨fun i h1 h2 => ?_, fun i k h1 h2 h3 h4 => ?_, .inl rfl⟩
    · rw [hbit] at h2; simp at h2; omega
    · rw [hbit] at h4; simp at h4; omega
  have hlen0 : l.length = 0 → (planAt P (2 ^ l.length - 1)).fin = 0 := fun e => by rw [e]; exact hzero
  clear hbit hzero
  generalize hNN : 2 ^ l.length = N at *
  generalize hnd : (planAt P (N - 1)).fin = need at *
  refine lim_ex (fn := a14) (k := 3) (res := [.tmp 6, .tmp 7, .tmp 8]) rfl rfl rfl (by simp -implicitDefEqProofs (maxSteps := 2000000) (disch := first | exact tt_rfl rfl | omega | (simp only [go_sem] <;> omega) | fail) only [go_sem]) ?_
  simp -implicitDefEqProofs (maxSteps := 2000000) (disch := first | exact tt_rfl rfl | omega | (simp only [go_sem] <;> omega) | fail) only [go_sem]
  repeat (first | apply Wp.seqA | apply Wp.skipS | apply Wp.blockS | ((first | apply Wp.regS | apply Wp.condV | apply Wp.reg | apply Wp.condW | apply fin_ret); simp -implicitDefEqProofs (maxSteps := 2000000) (disch := first | exact tt_rfl rfl | omega | (simp only [go_sem] <;> omega) | fail) only [go_sem, hn, hp, hlP] <;> try with_reducible rfl) | apply Wp.block | apply Wp.exitS | apply Wp.retS | apply Wp.exit | apply Wp.ret | apply Wp.skip)
  apply Wp.loopM (fun k fr => ∃ st : List Int, fr = ⟨[(6, .slice 384 0 l.length), (10, .slice 640 0 N), (11, iv (N - 1 : Nat)), (12, iv k)], [(384, .arr 1 (st.map fun n => iv n)), (640, .arr 3 (P.map Plan.av))], [], 10000000⟩ ∧ st.length = l.length ∧ k < N ∧ LaidCuts r bad l P need k st)
  · simp -implicitDefEqProofs (maxSteps := 2000000) (disch := first | exact tt_rfl rfl | omega | (simp only [go_sem] <;> omega) | fail) only [go_sem, norm_eq, Ok.some]
    refine ⟨N - 1, List.replicate l.length 0, ?_, by simp, by omega, hinit⟩
    have : ((N : Nat) : Int) - 1 = ((N - 1 : Nat) : Int) := by omega
    simp [this]
  rintro k fr ⟨st, rfl, hst, hk, hL⟩
  by_cases hk0 : k = 0
  · subst hk0
    have hxp : P[N - 1]? = some (planAt P (N - 1)) := planAt_eq (by omega)
    have hlt : ((N - 1 : Nat) : Int) < N := by omega
    clear hstep hinit
    repeat (first | apply Wp.seqA | apply Wp.skipS | apply Wp.blockS | ((first | apply Wp.regS | apply Wp.condV | apply Wp.reg | apply Wp.condW | apply fin_ret); simp -implicitDefEqProofs (maxSteps := 2000000) (disch := first | exact tt_rfl rfl | omega | (simp only [go_sem] <;> omega) | fail) only [go_sem, Int.lt_irrefl, List.getElem?_map, hxp, Option.map_some, Plan.av.eq_1, hlt, hnd] <;> try with_reducible rfl) | apply Wp.block | apply Wp.exitS | apply Wp.retS | apply Wp.exit | apply Wp.ret | apply Wp.skip)
    refine finp_ret (r := (.tuple [.own 1 (st.map fun n => iv n), iv need, iv 0], [])) ?_ ⟨st, need, rfl, hneed, hst, fun i hi => (hL.each i hi (Nat.zero_testBit i)).1, fun i k h1 h2 h3 => hL.apart i k h1 h2 h3 (Nat.zero_testBit i) (Nat.zero_testBit k), fun hne => ?_, hlen0⟩
    · simp -implicitDefEqProofs (maxSteps := 2000000) (disch := first | exact tt_rfl rfl | omega | (simp only [go_sem] <;> omega) | fail) only [go_sem, hst]
    · rcases hL.top with q | ⟨i, h1, _, h3⟩
      · have h0 : 0 < l.length := by omega
        have := (hL.each 0 h0 (Nat.zero_testBit 0)).1
        have hz : (planAt P 0).fin = 0 := (best_none fun i _ => Nat.zero_testBit i).1 (hP 0 hN0).1
        have := this.fin
        have := this
        have := (hL.each 0 h0 (Nat.zero_testBit 0)).1.pos
        have := (hv.cc _ (cutAt_mem h0)).1
        omega
      · exact ⟨i, h1, h3⟩
  · obtain ⟨i, h1, h2, h3, h4, h5⟩ := hstep hL hst hk hk0
    have hx := planAt_eq (l := P) (s := k) (by omega)
    have f3 := w_shl1 i (by omega)
    have f4 := w_andN k (2 ^ i) (by omega)
    have hlt := andN_lt (s := k) (i := i) (by omega) h2
    have hpos : (0 : Int) < k := by omega
    have hkN : (k : Int) < N := by omega
    have hxs : st[i]? = some (stAt st i) := stAt_eq (by omega)
    clear hstep hinit hL hP
    repeat (first | apply Wp.seqA | apply Wp.skipS | apply Wp.blockS | ((first | apply Wp.regS | apply Wp.condV | apply Wp.reg | apply Wp.condW | apply fin_ret); simp -implicitDefEqProofs (maxSteps := 2000000) (disch := first | exact tt_rfl rfl | omega | (simp only [go_sem] <;> omega) | fail) only [go_sem, hpos, hkN, List.getElem?_map, hx, hxs, Option.map_some, Plan.av.eq_1, h3, f3, f4, show (i : Int) < l.length by omega] <;> try with_reducible rfl) | apply Wp.block | apply Wp.exitS | apply Wp.retS | apply Wp.exit | apply Wp.ret | apply Wp.skip)
    apply round_next
    · simp -implicitDefEqProofs (maxSteps := 2000000) (disch := first | exact tt_rfl rfl | omega | (simp only [go_sem] <;> omega) | fail) only [go_sem, norm_eq, Ok.some]; with_reducible rfl
    refine ⟨_, hlt, st.set i (planAt P k).start, by simp, by simp [hst], by omega, h5⟩
end Go.Abs

