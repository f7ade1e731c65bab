/-
  Longest floats of turned and shifted points, in plain Lean: no program in sight.
-/
import Derived.Test.YthafpdlfdkddpaaV2
import Derived.Test.YthafpdlfdkddpaaM5
import Derived.Test.YthafpdlfdkddpaaM15
set_option linter.all false
namespace Go.Abs
set_option maxRecDepth 10000

/-- the floats of one ring are among those of another one, by length and side -/
def SameRuns (l l' : List Bool) : Prop := ∀ x ∈ runsT l, ∃ y ∈ runsT l', y.up = x.up ∧ y.len = x.len
theorem same_of {l l' : List Bool} (hl : 0 < l.length) (hlen : l'.length = l.length) (hf : ∀ i n, LenIs l i n → begs l i = true → ∃ j, LenIs l' j n ∧ gb l' j = gb l i ∧ begs l' j = true) (he : (∀ i, gb l i = gb l 0) → ∀ i, gb l' i = gb l 0) : SameRuns l l' := by
  intro x hx
  rcases runsT_mem.1 hx with ⟨i, hi, hb, rfl⟩ | ⟨ha, rfl⟩
  · obtain ⟨j, h1, h2, h3⟩ := hf i _ (lenT_is hb) hb
    have h4 := h1.mod
    have hb' : begs l' (j % l'.length) = true := by rw [begs_mod]; exact h3
    refine ⟨runAt l' (j % l'.length), runsT_mem.2 (.inl ⟨_, Nat.mod_lt _ (by omega), hb', rfl⟩), ?_, ?_⟩
    · unfold runAt; dsimp only; rw [gb_mod]; exact h2
    · unfold runAt; dsimp only
      exact (lenT_is hb').eq h4
  · have h := he ((endless_iff hl).1 ha)
    have h' : anyTo l' l'.length = false := (endless_iff (by omega)).2 fun i => by rw [h i, h 0]
    exact ⟨⟨0, 1000, gb l' 0⟩, runsT_mem.2 (.inr ⟨h', rfl⟩), h 0, rfl⟩
theorem same_refl (l : List Bool) : SameRuns l l := fun x hx => ⟨x, hx, rfl, rfl⟩
theorem same_rot {l l' : List Bool} (hl : 0 < l.length) (hlen : l'.length = l.length) (s : Nat) (h : ∀ i, gb l' i = gb l (i + s)) : SameRuns l l' := by
  refine same_of hl hlen (fun i n hL hb => ?_) fun he i => by rw [h, he]
  have hs : s ≤ l.length * s := Nat.le_mul_of_pos_left s hl
  have key : ∀ k, gb l' (i + l.length * s - s + k) = gb l (i + k) := fun k => by
    rw [h, show i + l.length * s - s + k + s = i + k + l.length * s by omega, gb_mul]
  refine ⟨i + l.length * s - s, ⟨hL.pos, by rw [hlen]; exact hL.lt, fun k hk => ?_, ?_⟩, ?_, ?_⟩
  · rw [key k, show i + l.length * s - s = i + l.length * s - s + 0 by omega, key 0]; exact hL.same k hk
  · rw [key n, show i + l.length * s - s = i + l.length * s - s + 0 by omega, key 0]; exact hL.other
  · rw [show i + l.length * s - s = i + l.length * s - s + 0 by omega, key 0]; rfl
  · unfold begs at *
    rw [hlen, show i + l.length * s - s + l.length - 1 = i + l.length * s - s + (l.length - 1) by omega, key, show gb l' (i + l.length * s - s) = gb l i from by rw [show i + l.length * s - s = i + l.length * s - s + 0 by omega, key 0]; rfl, show i + (l.length - 1) = i + l.length - 1 by omega]
    exact hb
theorem same_rev {l l' : List Bool} (hl : 0 < l.length) (hlen : l'.length = l.length) (h : ∀ i i', (i + i' + 1) % l.length = 0 → gb l' i = gb l i') : SameRuns l l' := by
  refine same_of hl hlen (fun i n hL hb => ?_) fun he i => by
    rw [h i (l.length * (i + 1) - (i + 1)) (by
      have : i + 1 ≤ l.length * (i + 1) := Nat.le_mul_of_pos_left _ hl
      rw [show i + (l.length * (i + 1) - (i + 1)) + 1 = l.length * (i + 1) by omega]
      exact Nat.mul_mod_right _ _), he]
  have hb2 : gb l i ≠ gb l (i + l.length - 1) := by simpa [begs] using hb
  have hs : i + n ≤ l.length * (i + n) := Nat.le_mul_of_pos_left _ hl
  have hm : l.length * (i + n + 1) = l.length * (i + n) + l.length := Nat.mul_succ _ _
  have hpos := hL.pos
  have key : ∀ k, k < n → gb l' (l.length * (i + n) - (i + n) + k) = gb l i := fun k hk => by
    rw [h _ (i + (n - 1 - k)) (by
      rw [show l.length * (i + n) - (i + n) + k + (i + (n - 1 - k)) + 1 = l.length * (i + n) by omega]
      exact Nat.mul_mod_right _ _)]
    exact hL.same _ (by omega)
  have k0 := key 0 (by omega)
  rw [Nat.add_zero] at k0
  refine ⟨l.length * (i + n) - (i + n), ⟨hL.pos, by rw [hlen]; exact hL.lt, fun k hk => by rw [key k hk, k0], ?_⟩, k0, ?_⟩
  · rw [k0, h _ (i + l.length - 1) (by
      rw [show l.length * (i + n) - (i + n) + n + (i + l.length - 1) + 1 = l.length * (i + n + 1) by omega]
      exact Nat.mul_mod_right _ _)]
    exact fun e => hb2 e.symm
  · unfold begs
    rw [k0, hlen, h (l.length * (i + n) - (i + n) + l.length - 1) (i + n) (by
      rw [show l.length * (i + n) - (i + n) + l.length - 1 + (i + n) + 1 = l.length * (i + n + 1) by omega]
      exact Nat.mul_mod_right _ _)]
    simpa using fun e => hL.other e.symm

theorem mx_in {b : Bool} {l : List FloatT} : 0 ≤ mxF b l ∧ ∀ f ∈ l, f.up = b → f.len ≤ mxF b l := by
  have key : ∀ (l : List FloatT) (m : Int), m ≤ l.foldl (mxStep b) m ∧ ∀ f ∈ l, f.up = b → f.len ≤ l.foldl (mxStep b) m := by
    intro l
    induction l with
    | nil => intro m; exact ⟨Int.le_refl _, by simp⟩
    | cons g l ih =>
      intro m
      rw [List.foldl_cons]
      obtain ⟨h1, h2⟩ := ih (mxStep b m g)
      have h3 : m ≤ mxStep b m g := by unfold mxStep; split <;> omega
      refine ⟨by omega, fun f hf hb => ?_⟩
      rcases List.mem_cons.1 hf with rfl | hf
      · have : f.len ≤ mxStep b m f := by unfold mxStep; rw [if_pos hb]; omega
        omega
      · exact h2 f hf hb
  exact key l 0
theorem mx_le {b : Bool} {l : List FloatT} {m : Int} (h0 : 0 ≤ m) (h : ∀ f ∈ l, f.up = b → f.len ≤ m) : mxF b l ≤ m := by
  have key : ∀ (l : List FloatT) (k : Int), k ≤ m → (∀ f ∈ l, f.up = b → f.len ≤ m) → l.foldl (mxStep b) k ≤ m := by
    intro l
    induction l with
    | nil => intro k hk _; exact hk
    | cons g l ih =>
      intro k hk hl
      rw [List.foldl_cons]
      refine ih _ ?_ fun f hf => hl f (by simp [hf])
      unfold mxStep
      split
      · rename_i hb
        have := hl g (by simp) hb
        omega
      · exact hk
  exact key l 0 h0 h
structure Keeps (mk : Nat → RunT → FloatT) : Prop where
  up : ∀ i x, (mk i x).up = x.up
  len : ∀ i x, (mk i x).len = x.len
theorem keepsW : Keeps floatW := ⟨fun _ _ => rfl, fun _ _ => rfl⟩
theorem keepsH : Keeps floatH := ⟨fun _ _ => rfl, fun _ _ => rfl⟩
theorem mx_same {R R' : Nat → List Bool} {mk mk' : Nat → RunT → FloatT} (hk : Keeps mk) (hk' : Keeps mk') {N N' : Nat} (h : ∀ i, i < N → ∃ j, j < N' ∧ SameRuns (R i) (R' j)) (b : Bool) : mxF b (flTo R mk N) ≤ mxF b (flTo R' mk' N') := by
  refine mx_le mx_in.1 fun f hf hb => ?_
  unfold flTo at hf
  obtain ⟨i, hi, hf⟩ := List.mem_flatMap.1 hf
  obtain ⟨x, hx, rfl⟩ := List.mem_map.1 hf
  obtain ⟨j, hj, hs⟩ := h i (List.mem_range.1 hi)
  obtain ⟨y, hy, h1, h2⟩ := hs x hx
  rw [hk.up] at hb
  rw [hk.len, ← h2, ← hk'.len j y]
  refine mx_in.2 _ ?_ (by rw [hk'.up, h1, hb])
  unfold flTo
  exact List.mem_flatMap.2 ⟨j, List.mem_range.2 hj, List.mem_map.2 ⟨y, hy, rfl⟩⟩

/-! ### Designs -/

theorem atN_made {g : Nat → Nat → Bool} {P H p h : Nat} (hP : 0 < P) (hH : 0 < H) : atN (madeN g P H) p h = g (p % P) (h % H) := by
  unfold atN madeN
  have hm := Nat.mod_lt p hP
  have hm2 := Nat.mod_lt h hH
  simp only [List.length_map, List.length_range]
  rw [List.getD_eq_getElem?_getD, List.getElem?_map, List.getElem?_range hm]
  simp only [Option.map_some, Option.getD_some]
  rw [rowTo_bit, decide_eq_true hm2, Bool.true_and]
theorem rev_mod {n i i' : Nat} (hn : 0 < n) (h : (i + i' + 1) % n = 0) : n - 1 - i % n = i' % n := by
  have h1 := Nat.mod_lt i hn
  have h2 := Nat.mod_lt i' hn
  have h3 : (i % n + i' % n + 1) % n = 0 := by rw [← h]; simp [Nat.add_mod]
  obtain ⟨c, hc⟩ := Nat.dvd_of_mod_eq_zero h3
  have : c = 1 := by
    rcases Nat.lt_or_ge c 1 with h | h
    · have : c = 0 := by omega
      subst this; simp at hc
    · rcases Nat.lt_or_ge 1 c with h' | h'
      · have : n * 2 ≤ n * c := Nat.mul_le_mul_left n h'
        omega
      · omega
  subst this
  omega
/-- a design made of another one, point by point: when its longest floats are the same -/
structure LikeD (d e : DesN) : Prop where
  ok : d.Ok
  ok' : e.Ok
  w : ∀ i, i < d.rows.length → ∃ j, j < e.rows.length ∧ SameRuns (pickR d i) (pickR e j)
  w' : ∀ i, i < e.rows.length → ∃ j, j < d.rows.length ∧ SameRuns (pickR e i) (pickR d j)
  h : ∀ i, i < d.hk → ∃ j, j < e.hk ∧ SameRuns (hookR d i) (hookR e j)
  h' : ∀ i, i < e.hk → ∃ j, j < d.hk ∧ SameRuns (hookR e i) (hookR d j)
theorem LikeD.weft {d e : DesN} (h : LikeD d e) (b : Bool) : mxF b (weftF e) = mxF b (weftF d) := Int.le_antisymm (mx_same keepsW keepsW h.w' b) (mx_same keepsW keepsW h.w b)
theorem LikeD.warp {d e : DesN} (h : LikeD d e) (b : Bool) : mxF b (warpF e) = mxF b (warpF d) := Int.le_antisymm (mx_same keepsH keepsH h.h' b) (mx_same keepsH keepsH h.h b)

theorem mirror_ok {d : DesN} (hd : d.Ok) : (mirrorN d).Ok := madeN_ok hd.h1 hd.h24 hd.r1 hd.r60
theorem flip_ok {d : DesN} (hd : d.Ok) : (flipN d).Ok := madeN_ok hd.h1 hd.h24 hd.r1 hd.r60
theorem back_ok {d : DesN} (hd : d.Ok) : (backN d).Ok := madeN_ok hd.h1 hd.h24 hd.r1 hd.r60
theorem shift_ok {d : DesN} (hd : d.Ok) (a b : Nat) : (shiftN d a b).Ok := madeN_ok hd.h1 hd.h24 hd.r1 hd.r60
theorem made_len (g : Nat → Nat → Bool) (P H : Nat) : (madeN g P H).rows.length = P := by simp [madeN]
theorem mirror_like {d : DesN} (hd : d.Ok) : LikeD d (mirrorN d) := by
  have hr := hd.r1
  have hh := hd.h1
  have hL : (mirrorN d).rows.length = d.rows.length := made_len _ _ _
  have hH : (mirrorN d).hk = d.hk := rfl
  have hat : ∀ p h, atN (mirrorN d) p h = atN d p (d.hk - 1 - h % d.hk) := fun p h => by
    unfold mirrorN
    rw [atN_made (by omega) (by omega)]
    exact atN_mod (Nat.mod_mod _ _) rfl
  have hrev : ∀ p h h', (h + h' + 1) % d.hk = 0 → atN (mirrorN d) p h = atN d p h' := fun p h h' e => by
    rw [hat, rev_mod (by omega) e]
    exact atN_mod rfl (Nat.mod_mod _ _)
  refine ⟨hd, mirror_ok hd, fun i hi => ⟨i, by omega, ?_⟩, fun i hi => ⟨i, by omega, ?_⟩, fun i hi => ⟨d.hk - 1 - i, by omega, ?_⟩, fun i hi => ⟨d.hk - 1 - i, by omega, ?_⟩⟩
  · refine same_rev (by rw [pickR_len]; omega) (by rw [pickR_len, pickR_len, hH]) fun h h' e => ?_
    rw [pickR_len] at e
    rw [atN_pick (mirror_ok hd) (by omega), atN_pick hd hi, hrev _ _ _ e]
  · refine same_rev (by rw [pickR_len, hH]; omega) (by rw [pickR_len, pickR_len, hH]) fun h h' e => ?_
    rw [pickR_len, hH] at e
    rw [atN_pick (mirror_ok hd) hi, atN_pick hd (by omega), hrev i h' h (by rw [← e]; congr 1; omega)]
  · refine same_rot (by rw [hookR_len]; omega) (by rw [hookR_len, hookR_len, hL]) 0 fun p => ?_
    rw [atN_hook (mirror_ok hd) (by omega), atN_hook hd hi, hat, Nat.mod_eq_of_lt (show d.hk - 1 - i < d.hk by omega), show d.hk - 1 - (d.hk - 1 - i) = i by omega]; rfl
  · refine same_rot (by rw [hookR_len, hL]; omega) (by rw [hookR_len, hookR_len, hL]) 0 fun p => ?_
    rw [hH] at hi
    rw [atN_hook hd (by omega), atN_hook (mirror_ok hd) hi, hat, Nat.mod_eq_of_lt hi]; rfl
theorem flip_like {d : DesN} (hd : d.Ok) : LikeD d (flipN d) := by
  have hr := hd.r1
  have hh := hd.h1
  have hL : (flipN d).rows.length = d.rows.length := made_len _ _ _
  have hH : (flipN d).hk = d.hk := rfl
  have hat : ∀ p h, atN (flipN d) p h = atN d (d.rows.length - 1 - p % d.rows.length) h := fun p h => by
    unfold flipN
    rw [atN_made (by omega) (by omega)]
    exact atN_mod rfl (Nat.mod_mod _ _)
  have hrev : ∀ p p' h, (p + p' + 1) % d.rows.length = 0 → atN (flipN d) p h = atN d p' h := fun p p' h e => by
    rw [hat, rev_mod (by omega) e]
    exact atN_mod (Nat.mod_mod _ _) rfl
  refine ⟨hd, flip_ok hd, fun i hi => ⟨d.rows.length - 1 - i, by omega, ?_⟩, fun i hi => ⟨d.rows.length - 1 - i, by omega, ?_⟩, fun i hi => ⟨i, by omega, ?_⟩, fun i hi => ⟨i, by omega, ?_⟩⟩
  · refine same_rot (by rw [pickR_len]; omega) (by rw [pickR_len, pickR_len, hH]) 0 fun h => ?_
    rw [atN_pick (flip_ok hd) (by omega), atN_pick hd hi, hat, Nat.mod_eq_of_lt (show d.rows.length - 1 - i < d.rows.length by omega), show d.rows.length - 1 - (d.rows.length - 1 - i) = i by omega]; rfl
  · refine same_rot (by rw [pickR_len, hH]; omega) (by rw [pickR_len, pickR_len, hH]) 0 fun h => ?_
    rw [hL] at hi
    rw [atN_pick hd (by omega), atN_pick (flip_ok hd) (by omega), hat, Nat.mod_eq_of_lt hi]; rfl
  · refine same_rev (by rw [hookR_len]; omega) (by rw [hookR_len, hookR_len, hL]) fun p p' e => ?_
    rw [hookR_len] at e
    rw [atN_hook (flip_ok hd) (by omega), atN_hook hd hi, hrev _ _ _ e]
  · refine same_rev (by rw [hookR_len, hL]; omega) (by rw [hookR_len, hookR_len, hL]) fun p p' e => ?_
    rw [hookR_len, hL] at e
    rw [atN_hook (flip_ok hd) hi, atN_hook hd (by omega), hrev p' p i (by rw [← e]; congr 1; omega)]
theorem shift_like {d : DesN} (hd : d.Ok) {a b : Nat} (ha : a < d.rows.length) (hb : b < d.hk) : LikeD d (shiftN d a b) := by
  have hr := hd.r1
  have hh := hd.h1
  have hL : (shiftN d a b).rows.length = d.rows.length := made_len _ _ _
  have hH : (shiftN d a b).hk = d.hk := rfl
  have hat : ∀ p h, atN (shiftN d a b) p h = atN d (p + (d.rows.length - a)) (h + (d.hk - b)) := fun p h => by
    unfold shiftN
    rw [atN_made (by omega) (by omega)]
    refine atN_mod ?_ ?_
    · rw [show p % d.rows.length + d.rows.length - a = p % d.rows.length + (d.rows.length - a) by omega, Nat.mod_add_mod]
    · rw [show h % d.hk + d.hk - b = h % d.hk + (d.hk - b) by omega, Nat.mod_add_mod]
  have hba : ∀ p h, atN d p h = atN (shiftN d a b) (p + a) (h + b) := fun p h => by
    rw [hat]
    refine atN_mod ?_ ?_
    · rw [show p + a + (d.rows.length - a) = p + d.rows.length by omega, Nat.add_mod_right]
    · rw [show h + b + (d.hk - b) = h + d.hk by omega, Nat.add_mod_right]
  have hmp := fun x => Nat.mod_lt x (show 0 < d.rows.length by omega)
  have hmh := fun x => Nat.mod_lt x (show 0 < d.hk by omega)
  refine ⟨hd, shift_ok hd a b, fun i hi => ⟨(i + a) % d.rows.length, by rw [hL]; exact hmp _, ?_⟩, fun i hi => ⟨(i + (d.rows.length - a)) % d.rows.length, hmp _, ?_⟩, fun i hi => ⟨(i + b) % d.hk, by rw [hH]; exact hmh _, ?_⟩, fun i hi => ⟨(i + (d.hk - b)) % d.hk, hmh _, ?_⟩⟩
  · refine same_rot (by rw [pickR_len]; omega) (by rw [pickR_len, pickR_len, hH]) (d.hk - b) fun h => ?_
    rw [atN_pick (shift_ok hd a b) (by rw [hL]; exact hmp _), atN_pick hd hi, hba i (h + (d.hk - b))]
    exact atN_mod (by rw [hL, Nat.mod_mod]) (by rw [hH, show h + (d.hk - b) + b = h + d.hk by omega, Nat.add_mod_right])
  · refine same_rot (by rw [pickR_len, hH]; omega) (by rw [pickR_len, pickR_len, hH]) b fun h => ?_
    rw [atN_pick hd (hmp _), atN_pick (shift_ok hd a b) hi, hat]
    exact atN_mod (Nat.mod_mod _ _) (by rw [show h + b + (d.hk - b) = h + d.hk by omega, Nat.add_mod_right])
  · refine same_rot (by rw [hookR_len]; omega) (by rw [hookR_len, hookR_len, hL]) (d.rows.length - a) fun p => ?_
    rw [atN_hook (shift_ok hd a b) (by rw [hH]; exact hmh _), atN_hook hd hi, hba (p + (d.rows.length - a)) i]
    exact atN_mod (by rw [hL, show p + (d.rows.length - a) + a = p + d.rows.length by omega, Nat.add_mod_right]) (by rw [hH, Nat.mod_mod])
  · refine same_rot (by rw [hookR_len, hL]; omega) (by rw [hookR_len, hookR_len, hL]) a fun p => ?_
    rw [atN_hook hd (hmh _), atN_hook (shift_ok hd a b) hi, hat]
    exact atN_mod (by rw [show p + a + (d.rows.length - a) = p + d.rows.length by omega, Nat.add_mod_right]) (Nat.mod_mod _ _)
end Go.Abs
