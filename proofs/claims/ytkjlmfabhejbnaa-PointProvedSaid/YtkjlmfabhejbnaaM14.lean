/-
 Bind finds the fewest changes of a design; windows say how many there are at least. Plain Lean: no program in sight.
-/
import Derived.Test.YtkjlmfabhejbnaaB4
import Derived.Test.YtkjlmfabhejbnaaB5
import Derived.Test.YtkjlmfabhejbnaaP7
set_option linter.all false
namespace Go.Abs
set_option maxRecDepth 10000

theorem pick_pts (d : DesN) (i : Nat) : pickR d i = ptsT (d.rows.getD i 0) d.hk := rfl
theorem atN_bit {d : DesN} {i h : Nat} (hi : i < d.rows.length) (hh : h < d.hk) : atN d i h = (d.rows.getD i 0).testBit h := by
 unfold atN
 rw [Nat.mod_eq_of_lt hi, Nat.mod_eq_of_lt hh]
theorem chgR_eq {d e : DesN} {i : Nat} (hi : i < d.rows.length) (hl : e.rows.length = d.rows.length) (hk : e.hk = d.hk) : chgR d e i = chgN (e.rows.getD i 0) (d.rows.getD i 0) d.hk := by
 unfold chgR chgN
 apply cntN_congr
 intro h hh
 rw [atN_bit hi hh, atN_bit (by omega) (by omega)]
 cases (d.rows.getD i 0).testBit h <;> cases (e.rows.getD i 0).testBit h <;> rfl
theorem bindN_row {d : DesN} {fx : List Nat} {b i : Nat} (hi : i < d.rows.length) : (bindN d fx b).rows.getD i 0 = bRow d fx b i := by
 unfold bindN
 rw [List.getD_eq_getElem?_getD, List.getElem?_map, List.getElem?_range hi]; rfl
theorem bindN_len (d : DesN) (fx : List Nat) (b : Nat) : (bindN d fx b).rows.length = d.rows.length := by simp [bindN]
theorem best_at {d : DesN} (hd : d.Ok) {fx : List Nat} {b : Nat} (hb : 1 ≤ b) (hall : bAll d fx b d.rows.length) {i : Nat} (hi : i < d.rows.length) : IsBest (d.rows.getD i 0) (fx.getD i 0) d.hk b (bRow d fx b i) (bChg d fx b i) := bind_best hb hd.h1 hd.h24 (hall i hi)
theorem bindN_ok {d : DesN} (hd : d.Ok) {fx : List Nat} {b : Nat} (hb : 1 ≤ b) (hall : bAll d fx b d.rows.length) : (bindN d fx b).Ok where
 h1 := hd.h1
 h24 := hd.h24
 r1 := by rw [bindN_len]; exact hd.r1
 r60 := by rw [bindN_len]; exact hd.r60
 lt := fun r hr => by
  unfold bindN at hr
  obtain ⟨i, hi, rfl⟩ := List.mem_map.1 hr
  exact (best_at hd hb hall (List.mem_range.1 hi)).can.lt
theorem bindN_bound {d : DesN} (hd : d.Ok) {fx : List Nat} {b : Nat} (hb : 1 ≤ b) (hall : bAll d fx b d.rows.length) : boundT (bindN d fx b) b = true := by
 rw [boundT_iff]
 intro i hi
 rw [bindN_len] at hi
 have h := (best_at hd hb hall hi).can.bd
 rw [BD_word (by have := hd.h1; omega)] at h
 rw [pick_pts, bindN_row hi]
 exact h
theorem bindN_chg {d : DesN} (hd : d.Ok) {fx : List Nat} {b : Nat} (hb : 1 ≤ b) (hall : bAll d fx b d.rows.length) {i : Nat} (hi : i < d.rows.length) : chgR d (bindN d fx b) i = bChg d fx b i := by
 rw [chgR_eq hi (bindN_len _ _ _) rfl, bindN_row hi]
 exact (best_at hd hb hall hi).chg
theorem bindN_sum {d : DesN} (hd : d.Ok) {fx : List Nat} {b : Nat} (hb : 1 ≤ b) (hall : bAll d fx b d.rows.length) : ∀ n, n ≤ d.rows.length → chgS d (bindN d fx b) n = bSum d fx b n := by
 intro n
 induction n with
 | zero => intro _; rfl
 | succ n ih =>
  intro hn
  unfold chgS bSum
  rw [ih (by omega), bindN_chg hd hb hall (by omega)]
theorem bindN_keep {d : DesN} (hd : d.Ok) {fx : List Nat} {b : Nat} (hf : FixOk d fx) (hb : 1 ≤ b) (hall : bAll d fx b d.rows.length) {i : Nat} (hi : i < d.rows.length) : (bRow d fx b i ^^^ d.rows.getD i 0) &&& fx.getD i 0 = 0 :=
 (keep_and (hf.get hi)).2 (best_at hd hb hall hi).can.keep
/-- another design that keeps the points that must stay -/
structure Other (d e : DesN) (fx : List Nat) : Prop where
 ok : e.Ok
 hk : e.hk = d.hk
 len : e.rows.length = d.rows.length
 keep : ∀ i, i < d.rows.length → keepN (d.rows.getD i 0) (fx.getD i 0) (e.rows.getD i 0) d.hk
theorem Other.can {d e : DesN} {fx : List Nat} (h : Other d e fx) (hd : d.Ok) {b : Nat} (hB : boundT e b = true) {i : Nat} (hi : i < d.rows.length) : CanBe (d.rows.getD i 0) (fx.getD i 0) d.hk b (e.rows.getD i 0) := by
 have hi' : i < e.rows.length := by rw [h.len]; exact hi
 have hlt := h.ok.lt _ (List.getElem_mem hi')
 rw [← rows_get hi', h.hk] at hlt
 refine ⟨hlt, h.keep i hi, ?_⟩
 rw [BD_word (by have := hd.h1; omega), ← h.hk, ← pick_pts]
 exact boundT_iff.1 hB i hi'
theorem other_no {d e : DesN} (hd : d.Ok) {fx : List Nat} {b : Nat} (hb : 1 ≤ b) (h : Other d e fx) (hall : ¬ bAll d fx b d.rows.length) : boundT e b = false := by
 cases hB : boundT e b with
 | false => rfl
 | true =>
  exfalso
  apply hall
  intro i hi
  refine Classical.byContradiction fun hc => ?_
  exact bind_none hb hd.h1 hd.h24 (Nat.le_of_not_lt hc) _ (h.can hd hB hi)
theorem other_le {d e : DesN} (hd : d.Ok) {fx : List Nat} {b : Nat} (hb : 1 ≤ b) (h : Other d e fx) (hall : bAll d fx b d.rows.length) (hB : boundT e b = true) : ∀ n, n ≤ d.rows.length → bSum d fx b n ≤ chgS d e n := by
 intro n
 induction n with
 | zero => intro _; exact Nat.zero_le _
 | succ n ih =>
  intro hn
  have h1 := ih (by omega)
  have h2 := ((best_at hd hb hall (show n < d.rows.length by omega)).min _ (h.can hd hB (by omega))).1
  rw [← chgR_eq (by omega) h.len h.hk] at h2
  unfold chgS bSum
  omega

/-! ### Windows -/

def winsD (d : DesN) (b : Nat) : List FloatT := (weftF d).flatMap (winT d.hk b)
theorem winsD_eq (d : DesN) (b : Nat) : winsD d b = (List.range d.rows.length).flatMap fun i => ((runsT (pickR d i)).map (floatW i)).flatMap (winT d.hk b) := by
 unfold winsD weftF flTo
 rw [List.flatMap_assoc]
theorem win_pick {hk b i : Nat} {l : List RunT} {f : FloatT} (h : f ∈ (l.map (floatW i)).flatMap (winT hk b)) : f.pick = (i : Int) := by
 obtain ⟨g, hg, hf⟩ := List.mem_flatMap.1 h
 obtain ⟨x, _, rfl⟩ := List.mem_map.1 hg
 unfold winT winTo at hf
 obtain ⟨j, _, rfl⟩ := List.mem_map.1 hf
 rfl
theorem win_len (l : List Bool) (b i : Nat) : (((runsT l).map (floatW i)).flatMap (winT l.length b)).length = (winL l b).length := by
 unfold winL
 rw [List.flatMap_map, List.length_flatMap, List.length_flatMap]
 congr 1
 apply List.map_congr_left
 intro x _
 unfold winT winTo winN winM floatW
 simp
theorem filter_none {α : Type} {l : List α} {p : α → Bool} (h : ∀ a ∈ l, p a = false) : l.filter p = [] := by
 rw [List.filter_eq_nil_iff]
 intro a ha
 rw [h a ha]; simp
theorem filter_all {α : Type} {l : List α} {p : α → Bool} (h : ∀ a ∈ l, p a = true) : l.filter p = l := List.filter_eq_self.2 h
theorem wins_count (d : DesN) (b : Nat) {i : Nat} (hi : i < d.rows.length) : ((winsD d b).filter fun f => decide (f.pick = (i : Int))).length = (winL (pickR d i) b).length := by
 rw [winsD_eq, List.filter_flatMap]
 have key : ∀ n, i < n → ((List.range n).flatMap fun j => (((runsT (pickR d j)).map (floatW j)).flatMap (winT d.hk b)).filter fun f => decide (f.pick = (i : Int))).length = (winL (pickR d i) b).length := by
  intro n
  have one : ∀ j, j ≠ i → ((((runsT (pickR d j)).map (floatW j)).flatMap (winT d.hk b)).filter fun f => decide (f.pick = (i : Int))) = [] := fun j hj => filter_none fun f hf => by
   rw [win_pick hf]; exact decide_eq_false (by omega)
  have self : ((((runsT (pickR d i)).map (floatW i)).flatMap (winT d.hk b)).filter fun f => decide (f.pick = (i : Int))) = ((runsT (pickR d i)).map (floatW i)).flatMap (winT d.hk b) := filter_all fun f hf => by
   rw [win_pick hf]; exact decide_eq_true rfl
  have hl := win_len (pickR d i) b i
  rw [pickR_len] at hl
  have zero : ∀ m, m ≤ i → ((List.range m).flatMap fun j => (((runsT (pickR d j)).map (floatW j)).flatMap (winT d.hk b)).filter fun f => decide (f.pick = (i : Int))) = [] := by
   intro m hm
   rw [List.flatMap_eq_nil_iff]
   intro j hj
   exact one j (by have := List.mem_range.1 hj; omega)
  induction n with
  | zero => intro h; omega
  | succ n ih =>
   intro h
   rw [List.range_succ, List.flatMap_append, List.length_append]
   rcases Nat.lt_or_ge i n with h1 | h1
   ·rw [ih h1]
    simp only [List.flatMap_cons, List.flatMap_nil, List.append_nil]
    rw [one n (by omega)]; rfl
   ·obtain rfl : n = i := by omega
    rw [zero n (Nat.le_refl _)]
    simp only [List.flatMap_cons, List.flatMap_nil, List.append_nil, List.length_nil, Nat.zero_add]
    rw [self, hl]
 exact key _ hi
/-- in each pick at least as many points are changed as it has windows -/
theorem wins_chg {d e : DesN} (hd : d.Ok) (hk : e.hk = d.hk) (hl : e.rows.length = d.rows.length) (he : e.Ok) {b : Nat} (hB : boundT e b = true) {i : Nat} (hi : i < d.rows.length) : (winL (pickR d i) b).length ≤ chgR d e i := by
 have h := wins_le (l := pickR d i) (y := pickR e i) (by rw [pickR_len]; exact hd.h1) (by rw [pickR_len, pickR_len, hk]) (boundT_iff.1 hB i (by omega))
 rw [pickR_len] at h
 refine Nat.le_trans h (Nat.le_of_eq ?_)
 unfold chgR
 apply cntN_congr
 intro p _
 rw [atN_pick he (by omega), atN_pick hd hi]
 cases atN e i p <;> cases atN d i p <;> rfl
end Go.Abs
