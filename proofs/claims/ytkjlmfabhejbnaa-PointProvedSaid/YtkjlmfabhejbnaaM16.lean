/-
 A ring can be bound by as many changes as it has windows. Plain Lean: no program in sight.
-/
import Derived.Test.YtkjlmfabhejbnaaM13
set_option linter.all false
namespace Go.Abs
set_option maxRecDepth 10000

theorem begs_cong {l : List Bool} {a c : Nat} (h : a % l.length = c % l.length) : begs l a = begs l c := by rw [← begs_mod l, h, begs_mod]
theorem sub_mod_eq {H a c t t' : Nat} (hle : t' ≤ t) (h : (a + t) % H = (c + t') % H) : (a + (t - t')) % H = c % H := by
 have h1 := Nat.div_add_mod (a + t) H
 have h2 := Nat.div_add_mod (c + t') H
 rw [h] at h1
 rcases Nat.le_total ((a + t) / H) ((c + t') / H) with hq | hq
 ·obtain ⟨d, hd⟩ := Nat.exists_eq_add_of_le hq
  rw [hd, Nat.mul_add] at h2
  have : c = a + (t - t') + H * d := by omega
  rw [this, Nat.add_mul_mod_self_left]
 ·obtain ⟨d, hd⟩ := Nat.exists_eq_add_of_le hq
  rw [hd, Nat.mul_add] at h1
  have : a + (t - t') = c + H * d := by omega
  rw [this, Nat.add_mul_mod_self_left]
/-- each point has its place in one float -/
theorem run_uniq {l : List Bool} {s s' t t' : Nat} (hs : s < l.length) (hs' : s' < l.length) (bs : begs l s = true) (bs' : begs l s' = true) (ht : t < lenT l s) (ht' : t' < lenT l s') (h : (s + t) % l.length = (s' + t') % l.length) : s = s' ∧ t = t' := by
 have key : ∀ {s s' t t' : Nat}, s < l.length → s' < l.length → begs l s = true → begs l s' = true → t < lenT l s → t' ≤ t → (s + t) % l.length = (s' + t') % l.length → s = s' ∧ t = t' := by
  intro s s' t t' hs hs' bs bs' ht hle h
  have e := sub_mod_eq hle h
  rcases Nat.eq_zero_or_pos (t - t') with h3 | h3
  ·rw [h3, Nat.add_zero, Nat.mod_eq_of_lt hs, Nat.mod_eq_of_lt hs'] at e
   exact ⟨e, by omega⟩
  ·have := (lenT_is bs).begs (t - t') h3 (by omega)
   rw [begs_cong e, bs'] at this; cases this
 rcases Nat.le_total t' t with hle | hle
 ·exact key hs hs' bs bs' ht hle h
 ·obtain ⟨h1, h2⟩ := key hs' hs bs' bs ht' hle h.symm
  exact ⟨h1.symm, h2.symm⟩
theorem in_run {l : List Bool} (ha : anyTo l l.length = true) (i : Nat) : ∃ s t, s < l.length ∧ begs l s = true ∧ t < lenT l s ∧ (s + t) % l.length = i % l.length := by
 have hex : ∃ s0, s0 < l.length ∧ begs l s0 = true := by
  unfold anyTo at ha
  rw [List.any_eq_true] at ha
  obtain ⟨s0, h1, h2⟩ := ha
  exact ⟨s0, List.mem_range.1 h1, h2⟩
 obtain ⟨s0, hs0, hb0⟩ := hex
 have h0 : 0 < l.length := by omega
 have hfind : ∃ j, j ≤ i + l.length ∧ begs l (i + l.length - j) = true ∧ ∀ m, m < j → begs l (i + l.length - m) = false := by
  have hx : ∃ j, j ≤ i + l.length ∧ begs l (i + l.length - j) = true := ⟨i + l.length - s0, by omega, by rw [show i + l.length - (i + l.length - s0) = s0 by omega]; exact hb0⟩
  obtain ⟨j, hj, hbj⟩ := hx
  induction j using Nat.strongRecOn with
  | ind j ih =>
   by_cases hm : ∃ m, m < j ∧ begs l (i + l.length - m) = true
   ·obtain ⟨m, hm1, hm2⟩ := hm
    exact ih m hm1 (by omega) hm2
   ·refine ⟨j, hj, hbj, fun m hm' => ?_⟩
    cases hq : begs l (i + l.length - m)
    ·rfl
    ·exact absurd ⟨m, hm', hq⟩ hm
 obtain ⟨j, hj, hbj, hnb⟩ := hfind
 have hb' : begs l ((i + l.length - j) % l.length) = true := by rw [begs_mod]; exact hbj
 have hlen : lenT l ((i + l.length - j) % l.length) = lenT l (i + l.length - j) := (lenT_is hb').eq (lenT_is hbj).mod
 refine ⟨(i + l.length - j) % l.length, j, Nat.mod_lt _ h0, hb', ?_, ?_⟩
 ·rw [hlen]
  refine Nat.lt_of_not_le fun hle => ?_
  have hL := lenT_is hbj
  have hp := hL.pos
  have he := hL.end
  rw [show i + l.length - j + lenT l (i + l.length - j) = i + l.length - (j - lenT l (i + l.length - j)) by omega, hnb _ (by omega)] at he
  cases he
 ·rw [Nat.mod_add_mod, show i + l.length - j + j = i + l.length by omega, Nat.add_mod_right]

/-- at which point of a window a float is parted -/
def offW (b L : Nat) : Nat := if L % (b + 1) = b then b else b - 1
/-- the points that are changed -/
def partL (l : List Bool) (b : Nat) : List Nat := ((List.range l.length).filter (begs l)).flatMap fun s => (List.range (lenT l s / (b + 1))).map fun j => (s + (j * (b + 1) + offW b (lenT l s))) % l.length
theorem off_lt {b L j : Nat} (hb : 2 ≤ b) (hj : j < L / (b + 1)) : j * (b + 1) + offW b L + 1 < L := by
 have h1 : (j + 1) * (b + 1) ≤ (L / (b + 1)) * (b + 1) := Nat.mul_le_mul_right _ hj
 rw [Nat.succ_mul] at h1
 have h2 := Nat.div_add_mod L (b + 1)
 rw [Nat.mul_comm] at h2
 unfold offW
 split
 ·omega
 ·omega
theorem part_iff {l : List Bool} {b : Nat} (hb : 2 ≤ b) {s t : Nat} (hs : s < l.length) (bs : begs l s = true) (ht : t < lenT l s) :
  (s + t) % l.length ∈ partL l b ↔ t % (b + 1) = offW b (lenT l s) ∧ t / (b + 1) < lenT l s / (b + 1) := by
 have ho : ∀ L, offW b L < b + 1 := fun L => by unfold offW; split <;> omega
 unfold partL
 rw [List.mem_flatMap]
 constructor
 ·rintro ⟨s', hs', hm⟩
  obtain ⟨h1, h2⟩ := List.mem_filter.1 hs'
  obtain ⟨j, hj, he⟩ := List.mem_map.1 hm
  have hj := List.mem_range.1 hj
  have hlt := off_lt (L := lenT l s') hb hj
  obtain ⟨rfl, rfl⟩ := run_uniq (List.mem_range.1 h1) hs h2 bs (by omega) ht he
  have := ho (lenT l s')
  exact ⟨by rw [Nat.mul_comm, Nat.mul_add_mod, Nat.mod_eq_of_lt this], by rw [Nat.mul_comm, Nat.mul_add_div (by omega), Nat.div_eq_of_lt this]; exact hj⟩
 ·rintro ⟨h1, h2⟩
  refine ⟨s, List.mem_filter.2 ⟨List.mem_range.2 hs, bs⟩, List.mem_map.2 ⟨t / (b + 1), List.mem_range.2 h2, ?_⟩⟩
  have := Nat.div_add_mod t (b + 1)
  rw [← h1, Nat.mul_comm, this]
/-- the ring that is parted -/
def partR (l : List Bool) (b : Nat) : List Bool := (List.range l.length).map fun p => gb l p != decide (p ∈ partL l b)
theorem partR_len (l : List Bool) (b : Nat) : (partR l b).length = l.length := by simp [partR]
theorem partR_gb {l : List Bool} (h0 : 0 < l.length) (b i : Nat) : gb (partR l b) i = (gb l i != decide (i % l.length ∈ partL l b)) := by
 have hm := Nat.mod_lt i h0
 rw [← gb_mod (partR l b) i, partR_len, ← gb_mod l i]
 unfold gb
 rw [partR_len, Nat.mod_mod]
 unfold partR
 rw [List.getD_eq_getElem?_getD, List.getElem?_map, List.getElem?_range hm]
 simp only [Option.map_some, Option.getD_some]
 unfold gb
 rw [Nat.mod_mod]
theorem part_bd {l : List Bool} {b : Nat} (hb : 2 ≤ b) (ha : anyTo l l.length = true) : BD (partR l b) b := by
 have h0 : 0 < l.length := by
  obtain ⟨s, _, h, _⟩ := in_run ha 0
  omega
 intro i
 obtain ⟨s, t, hs, bs, ht, he⟩ := in_run ha i
 have hL := lenT_is bs
 have pin := fun {t : Nat} (ht : t < lenT l s) => part_iff (l := l) hb hs bs ht
 have gat : ∀ k, gb (partR l b) (i + k) = (gb l (s + (t + k)) != decide ((s + (t + k)) % l.length ∈ partL l b)) := fun k => by
  have e : (i + k) % l.length = (s + (t + k)) % l.length := by
   rw [← Nat.mod_add_mod, ← he, Nat.mod_add_mod]; congr 1; omega
  rw [partR_gb h0, gb_congr e, e]
 have hup : ∀ t', t' < lenT l s → gb l (s + t') = gb l s := fun t' h => hL.same t' h
 have hdm := Nat.div_add_mod (lenT l s) (b + 1)
 have hdt := Nat.div_add_mod t (b + 1)
 have hr := Nat.mod_lt (lenT l s) (show 0 < b + 1 by omega)
 have hrt := Nat.mod_lt t (show 0 < b + 1 by omega)
 have ho1 : 1 ≤ offW b (lenT l s) := by unfold offW; split <;> omega
 have hro : lenT l s % (b + 1) ≤ offW b (lenT l s) := by unfold offW; split <;> omega
 have hob : offW b (lenT l s) ≤ b := by unfold offW; split <;> omega
 have g0 := gat 0
 rw [Nat.add_zero, Nat.add_zero] at g0
 by_cases hF : (s + t) % l.length ∈ partL l b
 ·-- a changed point: the next one is not
  have hF' := (pin ht).1 hF
  have hlt := off_lt (L := lenT l s) hb hF'.2
  have ht1 : t + 1 < lenT l s := by rw [← hF'.1, Nat.mul_comm, hdt] at hlt; exact hlt
  have hn : ¬ (s + (t + 1)) % l.length ∈ partL l b := fun h => by
   have h1 := ((pin ht1).1 h).1
   have h2 := hF'.1
   have h3 : (t + 1) % (b + 1) = (t % (b + 1) + 1) % (b + 1) := by rw [Nat.mod_add_mod]
   rw [h1, h2] at h3
   rcases Nat.lt_or_ge (offW b (lenT l s) + 1) (b + 1) with h4 | h4
   ·rw [Nat.mod_eq_of_lt h4] at h3; omega
   ·have : offW b (lenT l s) + 1 = b + 1 := by omega
    rw [this, Nat.mod_self] at h3; omega
  refine ⟨1, by omega, ?_⟩
  rw [gat 1, g0, hup _ ht1, hup _ ht, decide_eq_true hF, decide_eq_false hn]
  cases gb l s <;> simp
 ·have hF' : ¬ (t % (b + 1) = offW b (lenT l s) ∧ t / (b + 1) < lenT l s / (b + 1)) := fun h => hF ((pin ht).2 h)
  -- the next point whose place in its window is that of a change
  obtain ⟨d, hd1, hd2, hd3⟩ : ∃ d, d ≤ b ∧ (t + d) % (b + 1) = offW b (lenT l s) ∧ (d = 0 → t % (b + 1) = offW b (lenT l s)) := by
   rcases Nat.lt_or_ge (offW b (lenT l s)) (t % (b + 1)) with h | h
   ·refine ⟨offW b (lenT l s) + (b + 1) - t % (b + 1), by omega, ?_, by omega⟩
    have e : t + (offW b (lenT l s) + (b + 1) - t % (b + 1)) = offW b (lenT l s) + (b + 1) * (t / (b + 1) + 1) := by
     rw [Nat.mul_add]; omega
    rw [e, Nat.add_mul_mod_self_left, Nat.mod_eq_of_lt (by omega)]
   ·refine ⟨offW b (lenT l s) - t % (b + 1), by omega, ?_, by omega⟩
    have e : t + (offW b (lenT l s) - t % (b + 1)) = offW b (lenT l s) + (b + 1) * (t / (b + 1)) := by omega
    rw [e, Nat.add_mul_mod_self_left, Nat.mod_eq_of_lt (by omega)]
  have hdd := Nat.div_add_mod (t + d) (b + 1)
  rw [hd2] at hdd
  by_cases hq : (t + d) / (b + 1) < lenT l s / (b + 1)
  ·have hlt := off_lt (L := lenT l s) hb hq
   have htd : t + d < lenT l s := by rw [Nat.mul_comm] at hlt; omega
   have hd0 : d ≠ 0 := fun h => by
    subst h
    exact hF' ⟨hd3 rfl, by simpa using hq⟩
   have hin : (s + (t + d)) % l.length ∈ partL l b := (pin htd).2 ⟨hd2, hq⟩
   refine ⟨d, hd1, ?_⟩
   rw [gat d, g0, hup _ htd, hup _ ht, decide_eq_true hin, decide_eq_false hF]
   cases gb l s <;> simp
  ·have hge : lenT l s ≤ t + d := by
    have h1 : (b + 1) * (lenT l s / (b + 1)) ≤ (b + 1) * ((t + d) / (b + 1)) := Nat.mul_le_mul_left _ (by omega)
    omega
   -- the next float begins within reach
   have hbe := hL.end
   have hm := Nat.mod_lt (s + lenT l s) h0
   have bs' : begs l ((s + lenT l s) % l.length) = true := by rw [begs_mod]; exact hbe
   have hn : ¬ (s + (t + (lenT l s - t))) % l.length ∈ partL l b := fun h => by
    rw [show s + (t + (lenT l s - t)) = s + lenT l s by omega] at h
    have h1 := (part_iff (b := b) hb hm bs' (t := 0) (by have := (lenT_is bs').pos; omega)).1 (by rw [Nat.add_zero, Nat.mod_mod]; exact h)
    have : 1 ≤ offW b (lenT l ((s + lenT l s) % l.length)) := by unfold offW; split <;> omega
    rw [Nat.zero_mod] at h1
    omega
   refine ⟨lenT l s - t, by omega, ?_⟩
   rw [gat (lenT l s - t), g0, decide_eq_false hn, decide_eq_false hF, hup _ ht, show s + (t + (lenT l s - t)) = s + lenT l s by omega]
   have := hL.other
   cases h1 : gb l s <;> cases h2 : gb l (s + lenT l s) <;> simp_all
theorem part_len {l : List Bool} (ha : anyTo l l.length = true) (b : Nat) : (partL l b).length = (winL l b).length := by
 have hr : runsT l = ((List.range l.length).filter (begs l)).map (runAt l) := by
  unfold runsT lastT runsTo
  rw [ha]; simp
 unfold partL winL
 rw [hr, List.flatMap_map, List.length_flatMap, List.length_flatMap]
 congr 1
 apply List.map_congr_left
 intro s hs
 have bs := (List.mem_filter.1 hs).2
 have hlt := (lenT_is bs).lt
 simp only [List.length_map, List.length_range, winM, runAt]
 rw [Nat.min_eq_left (by omega)]
theorem part_chg {l : List Bool} (h0 : 0 < l.length) (b : Nat) : cntN (fun p => gb (partR l b) p != gb l p) l.length ≤ (partL l b).length := by
 unfold cntN
 refine List.Nodup.length_le_of_subset (List.Pairwise.filter _ List.nodup_range) fun p hp => ?_
 obtain ⟨h1, h2⟩ := List.mem_filter.1 hp
 have hlt := List.mem_range.1 h1
 rw [partR_gb h0, Nat.mod_eq_of_lt hlt] at h2
 by_cases hm : p ∈ partL l b
 ·exact hm
 ·rw [decide_eq_false hm] at h2
  cases h3 : gb l p <;> rw [h3] at h2 <;> simp at h2
end Go.Abs
