/-
 Windows prove how many points must be changed: plain Lean, no program in sight.
-/
import Derived.Test.YtkjlmfabhejbnaaM16
import Derived.Test.YtkjlmfabhejbnaaQ2
set_option linter.all false
namespace Go.Abs
set_option maxRecDepth 10000

theorem winI_eq (l : List Bool) (h0 : 0 < l.length) (b i : Nat) : ((runsT l).map (floatW i)).flatMap (winT l.length b) = (winL l b).map fun a : Nat => (⟨(i : Int), (a : Int), ((b + 1 : Nat) : Int), gb l a⟩ : FloatT) := by
 unfold winL
 rw [List.flatMap_map, List.map_flatMap]
 have : ∀ x ∈ runsT l, winT l.length b (floatW i x) = ((List.range (winM l.length b x)).map fun j => (x.first + j * (b + 1)) % l.length).map fun a : Nat => (⟨(i : Int), (a : Int), ((b + 1 : Nat) : Int), gb l a⟩ : FloatT) := fun x hx => by
  unfold winT winTo
  have e : winN l.length b (floatW i x) = winM l.length b x := by unfold winN winM floatW; simp
  rw [e, List.map_map]
  apply List.map_congr_left
  intro j hj
  have hj := List.mem_range.1 hj
  have hup : gb l ((x.first + j * (b + 1)) % l.length) = x.up := by
   rw [gb_mod]
   have := run_same hx h0 (win_off hj (Nat.zero_le b))
   rw [Nat.add_zero] at this
   exact this
  simp only [Function.comp, winAt, floatW, hup]
  simp
 generalize runsT l = rs at *
 induction rs with
 | nil => rfl
 | cons x rs ih => rw [List.flatMap_cons, List.flatMap_cons, this x (by simp), ih fun y hy => this y (by simp [hy])]
theorem winsD_map {d : DesN} (hd : d.Ok) (b : Nat) : winsD d b = (List.range d.rows.length).flatMap fun i => (winL (pickR d i) b).map fun a : Nat => (⟨(i : Int), (a : Int), ((b + 1 : Nat) : Int), gb (pickR d i) a⟩ : FloatT) := by
 rw [winsD_eq]
 congr 1
 funext i
 have := winI_eq (pickR d i) (by rw [pickR_len]; exact hd.h1) b i
 rw [pickR_len] at this
 exact this
structure WinIs (d : DesN) (b : Nat) (f : FloatT) (i a : Nat) : Prop where
 hi : i < d.rows.length
 ha : a ∈ winL (pickR d i) b
 pick : f.pick = (i : Int)
 hook : f.hook = (a : Int)
 len : f.len = ((b + 1 : Nat) : Int)
 up : f.up = gb (pickR d i) a
theorem win_is {d : DesN} (hd : d.Ok) {b : Nat} {f : FloatT} (h : f ∈ winsD d b) : ∃ i a, WinIs d b f i a := by
 rw [winsD_map hd] at h
 obtain ⟨i, hi, hf⟩ := List.mem_flatMap.1 h
 obtain ⟨a, ha, rfl⟩ := List.mem_map.1 hf
 exact ⟨i, a, List.mem_range.1 hi, ha, rfl, rfl, rfl, rfl⟩
theorem winsD_apart {d : DesN} (hd : d.Ok) (b : Nat) : (winsD d b).Pairwise fun f g => ∀ k k', k ≤ b → k' ≤ b → ¬ (f.pick = g.pick ∧ (f.hook.toNat + k) % d.hk = (g.hook.toNat + k') % d.hk) := by
 rw [winsD_map hd, List.pairwise_flatMap]
 constructor
 ·intro i _
  rw [List.pairwise_map]
  have := wins_apart (l := pickR d i) (by rw [pickR_len]; exact hd.h1) b
  rw [pickR_len] at this
  refine this.imp ?_
  rintro a a' h k k' hk hk' ⟨_, he⟩
  exact h k k' hk hk' (by simpa using he)
 ·refine List.Pairwise.imp ?_ List.pairwise_lt_range
  rintro i j hij f hf g hg k k' _ _ ⟨he, _⟩
  obtain ⟨a, _, rfl⟩ := List.mem_map.1 hf
  obtain ⟨a', _, rfl⟩ := List.mem_map.1 hg
  dsimp only at he
  omega
theorem winsD_sum {d : DesN} (b : Nat) : (winsD d b).length = ((List.range d.rows.length).map fun i => (winL (pickR d i) b).length).sum := by
 rw [winsD_eq, List.length_flatMap]
 congr 1
 apply List.map_congr_left
 intro i _
 have := win_len (pickR d i) b i
 rw [pickR_len] at this
 exact this

/-- nothing need stay -/
def zeroF (d : DesN) : List Nat := List.replicate d.rows.length 0
theorem zeroF_ok (d : DesN) : FixOk d (zeroF d) where
 len := by simp [zeroF]
 lt := fun r hr => by
  rw [(List.mem_replicate.1 hr).2]; exact Nat.pow_pos (by omega)
theorem zeroF_get (d : DesN) (i : Nat) : (zeroF d).getD i 0 = 0 := by
 unfold zeroF
 rw [List.getD_eq_getElem?_getD, List.getElem?_replicate]
 split <;> rfl
theorem not_alike {d : DesN} (hd : d.Ok) {i : Nat} (hi : i < d.rows.length) (h1 : d.rows.getD i 0 ≠ 0) (h2 : d.rows.getD i 0 ≠ 2 ^ d.hk - 1) : anyTo (pickR d i) (pickR d i).length = true := by
 refine Classical.byContradiction fun hc => ?_
 have hf : anyTo (pickR d i) (pickR d i).length = false := by simpa using hc
 have h0 : 0 < (pickR d i).length := by rw [pickR_len]; exact hd.h1
 have he := (endless_iff h0).1 hf
 have hlt : d.rows.getD i 0 < 2 ^ d.hk := by rw [rows_get hi]; exact hd.lt _ (List.getElem_mem hi)
 have hbit : ∀ j, j < d.hk → (d.rows.getD i 0).testBit j = gb (pickR d i) 0 := fun j hj => by
  rw [← he j, pick_pts, ptsT_at hj]
 have hp : 0 < 2 ^ d.hk := Nat.pow_pos (by omega)
 cases hg : gb (pickR d i) 0 with
 | false => exact h1 (row_eq hlt hp fun j hj => by rw [hbit j hj, hg, Nat.zero_testBit])
 | true => exact h2 (row_eq hlt (by omega) fun j hj => by rw [hbit j hj, hg, Nat.testBit_two_pow_sub_one, decide_eq_true hj])
theorem pts_row {l : List Bool} {n : Nat} (h : l.length = n) : ptsT (rowOf l) n = l := by
 apply List.ext_getElem
 ·simp [ptsT, h]
 ·intro i h1 h2
  have e := rowOf_bit l i
  rw [List.getD_eq_getElem?_getD, List.getElem?_eq_getElem h2] at e
  simp only [ptsT, List.getElem_map, List.getElem_range]
  exact e
theorem prove_one {d : DesN} (hd : d.Ok) {b : Nat} (hb : 2 ≤ b) {i : Nat} (hi : i < d.rows.length) (ha : anyTo (pickR d i) (pickR d i).length = true) : bChg d (zeroF d) b i < never ∧ bChg d (zeroF d) b i ≤ (winL (pickR d i) b).length := by
 have h0 : 0 < (pickR d i).length := by rw [pickR_len]; exact hd.h1
 have hl : (partR (pickR d i) b).length = d.hk := by rw [partR_len, pickR_len]
 have hpt := pts_row hl
 have hcan : CanBe (d.rows.getD i 0) ((zeroF d).getD i 0) d.hk b (rowOf (partR (pickR d i) b)) := by
  refine ⟨by rw [← hl]; exact rowOf_lt _, fun h _ hf => ?_, ?_⟩
  ·rw [zeroF_get, Nat.zero_testBit] at hf; cases hf
  ·rw [BD_word (by have := hd.h1; omega), hpt]
   exact part_bd hb ha
 have hlt : bindChg (d.rows.getD i 0) ((zeroF d).getD i 0) d.hk b < never := by
  refine Nat.lt_of_not_le fun hc => ?_
  exact bind_none (by omega) hd.h1 hd.h24 hc _ hcan
 refine ⟨hlt, ?_⟩
 have hbest := bind_best (row := d.rows.getD i 0) (fixed := (zeroF d).getD i 0) (b := b) (by omega) hd.h1 hd.h24 hlt
 have h1 := (hbest.min _ hcan).1
 have h2 := part_chg h0 b
 rw [part_len ha, pickR_len] at h2
 refine Nat.le_trans h1 (Nat.le_trans (Nat.le_of_eq ?_) h2)
 unfold chgN
 apply cntN_congr
 intro p hp
 have e1 : gb (partR (pickR d i) b) p = (rowOf (partR (pickR d i) b)).testBit p := by rw [← ptsT_at (r := rowOf (partR (pickR d i) b)) hp, hpt]
 have e2 : gb (pickR d i) p = (d.rows.getD i 0).testBit p := by rw [pick_pts, ptsT_at hp]
 rw [e1, e2]
/-- as many points must be changed as there are windows -/
theorem prove_all {d : DesN} (hd : d.Ok) {b : Nat} (hb : 2 ≤ b) (h : ∀ i, i < d.rows.length → d.rows.getD i 0 ≠ 0 ∧ d.rows.getD i 0 ≠ 2 ^ d.hk - 1) : bAll d (zeroF d) b d.rows.length ∧ bSum d (zeroF d) b d.rows.length = (winsD d b).length := by
 have hone := fun i (hi : i < d.rows.length) => prove_one hd hb hi (not_alike hd hi (h i hi).1 (h i hi).2)
 have hall : bAll d (zeroF d) b d.rows.length := fun i hi => (hone i hi).1
 refine ⟨hall, ?_⟩
 rw [winsD_sum]
 have key : ∀ n, n ≤ d.rows.length → bSum d (zeroF d) b n = ((List.range n).map fun i => (winL (pickR d i) b).length).sum := by
  intro n
  induction n with
  | zero => intro _; rfl
  | succ n ih =>
   intro hn
   have h1 := (hone n (by omega)).2
   have h2 := wins_chg hd (e := bindN d (zeroF d) b) rfl (bindN_len _ _ _) (bindN_ok hd (by omega) hall) (bindN_bound hd (by omega) hall) (i := n) (by omega)
   rw [bindN_chg hd (by omega) hall (by omega)] at h2
   unfold bSum
   rw [ih (by omega), List.range_succ, List.map_append, List.sum_append]
   simp
   omega
 exact key _ (Nat.le_refl _)

/-! ### The points of the windows, one after another -/

def ptV (p : Nat × Nat) : List AV := [iv (p.1 : Int), iv (p.2 : Int)]
def winP (H b : Nat) (f : FloatT) (k : Nat) : List (Nat × Nat) := (List.range k).map fun k => (f.pick.toNat, (f.hook.toNat + k) % H)
def winsP (d : DesN) (b t : Nat) : List (Nat × Nat) := ((winsD d b).take t).flatMap fun f => winP d.hk b f (b + 1)
theorem winsP_succ {d : DesN} {b t : Nat} (h : t < (winsD d b).length) : winsP d b (t + 1) = winsP d b t ++ winP d.hk b (winsD d b)[t] (b + 1) := by
 unfold winsP
 rw [List.take_succ_eq_append_getElem h, List.flatMap_append]; simp
theorem winP_succ (H b : Nat) (f : FloatT) (k : Nat) : winP H b f (k + 1) = winP H b f k ++ [(f.pick.toNat, (f.hook.toNat + k) % H)] := by
 unfold winP; rw [List.range_succ, List.map_append]; rfl
/-- each point comes once -/
theorem pt_new {d : DesN} (hd : d.Ok) {b t k : Nat} (ht : t < (winsD d b).length) (hk : k ≤ b) : (((winsD d b)[t]).pick.toNat, (((winsD d b)[t]).hook.toNat + k) % d.hk) ∉ winsP d b t ++ winP d.hk b (winsD d b)[t] k := by
 intro hm
 obtain ⟨i, a, hw⟩ := win_is hd (List.getElem_mem ht)
 rcases List.mem_append.1 hm with hm | hm
 ·unfold winsP at hm
  obtain ⟨g, hg, hm⟩ := List.mem_flatMap.1 hm
  obtain ⟨k', hk', he⟩ := List.mem_map.1 hm
  obtain ⟨t', ht', rfl⟩ := List.getElem_of_mem hg
  have hlt : t' < t := by rw [List.length_take] at ht'; omega
  rw [List.getElem_take] at he
  have hap := List.pairwise_iff_getElem.1 (winsD_apart hd b) t' t (by omega) ht hlt k' k (by have := List.mem_range.1 hk'; omega) hk
  apply hap
  obtain ⟨i', a', hw'⟩ := win_is hd (List.getElem_mem (show t' < (winsD d b).length by omega))
  simp only [Prod.mk.injEq] at he
  refine ⟨?_, he.2⟩
  have h1 := he.1
  rw [hw.pick, hw'.pick] at h1 ⊢
  omega
 ·obtain ⟨k', hk', he⟩ := List.mem_map.1 hm
  have hk' := List.mem_range.1 hk'
  simp only [Prod.mk.injEq] at he
  have hwl := win_lt (l := pickR d i) (by rw [pickR_len]; exact hd.h1) hw.ha
  rw [pickR_len] at hwl
  have := add_mod_inj (by omega) (by omega) he.2
  omega
theorem findP (x : Nat × Nat) (l : List (Nat × Nat)) (j : Nat) (h : x ∉ l) : findS [true, true] [iv (x.1 : Int), iv (x.2 : Int)] (l.map ptV) j = some none := by
 induction l generalizing j with
 | nil => rfl
 | cons y l ih =>
  simp only [List.mem_cons, not_or] at h
  have e : eqCells [true, true] [iv (x.1 : Int), iv (x.2 : Int)] (ptV y) = some false := by
   unfold ptV
   simp only [go_sem, Int.ofNat_inj]
   congr 1
   by_cases h1 : x.1 = y.1
   ·by_cases h2 : x.2 = y.2
    ·exact absurd (Prod.ext h1 h2) h.1
    ·simp [h2]
   ·simp [h1]
  rw [List.map_cons]
  simp only [findS, e]
  exact ih (j + 1) h.2
end Go.Abs
