/-
 Windows of a ring, and the fewest changes that bind it, in plain Lean: no program in sight.
-/
import Derived.Test.YtkjlmfabhejbnaaM12
import Derived.Test.YtkjlmfabhejbnaaM15
set_option linter.all false
namespace Go.Abs
set_option maxRecDepth 10000

/-- so many windows of a float -/
def winM (H b : Nat) (x : RunT) : Nat := min x.len H / (b + 1)
/-- where the windows of a ring begin -/
def winL (l : List Bool) (b : Nat) : List Nat := (runsT l).flatMap fun x => (List.range (winM l.length b x)).map fun j => (x.first + j * (b + 1)) % l.length
theorem pairwise_and_mem {α : Type} {R : α → α → Prop} {l : List α} {P : α → Prop} (h : l.Pairwise R) (hp : ∀ a ∈ l, P a) : l.Pairwise fun a b => P a ∧ P b ∧ R a b := by
 induction l with
 | nil => exact List.Pairwise.nil
 | cons a l ih =>
  obtain ⟨h1, h2⟩ := List.pairwise_cons.1 h
  refine List.pairwise_cons.2 ⟨fun c hc => ⟨hp a (by simp), hp c (by simp [hc]), h1 c hc⟩, ih h2 fun c hc => hp c (by simp [hc])⟩
theorem add_mod_inj {a t t' H : Nat} (ht : t < H) (ht' : t' < H) (h : (a + t) % H = (a + t') % H) : t = t' := by
 have key : ∀ t t', t ≤ t' → t' < H → (a + t) % H = (a + t') % H → t = t' := by
  intro t t' hle hlt h
  have hd : (t' - t) % H = 0 := by
   have h1 : (a + t + (t' - t)) % H = (a + t) % H := by rw [show a + t + (t' - t) = a + t' by omega]; exact h.symm
   have e1 := Nat.div_add_mod (a + t) H
   have e2 := Nat.div_add_mod (a + t + (t' - t)) H
   have h0 : 0 < H := by omega
   have hle2 : (a + t) / H ≤ (a + t + (t' - t)) / H := Nat.div_le_div_right (by omega)
   obtain ⟨c, hc⟩ : ∃ c, (a + t + (t' - t)) / H = (a + t) / H + c := ⟨_, (Nat.add_sub_cancel' hle2).symm⟩
   rw [hc, Nat.mul_add] at e2
   have : t' - t = H * c := by omega
   rw [this]; exact Nat.mul_mod_right _ _
  rw [Nat.mod_eq_of_lt (by omega)] at hd
  omega
 rcases Nat.le_total t t' with h1 | h1
 ·exact key t t' h1 ht' h
 ·exact (key t' t h1 ht h.symm).symm
theorem run_len {l : List Bool} {x : RunT} (hx : x ∈ runsT l) (h0 : 0 < l.length) : (anyTo l l.length = false ∧ x.first = 0) ∨ ∃ i, i < l.length ∧ begs l i = true ∧ x = runAt l i := by
 rcases runsT_mem.1 hx with h | ⟨h, rfl⟩
 ·exact .inr h
 ·exact .inl ⟨h, rfl⟩
/-- points of a float are all alike -/
theorem run_same {l : List Bool} {x : RunT} (hx : x ∈ runsT l) (h0 : 0 < l.length) {t : Nat} (ht : t < min x.len l.length) : gb l (x.first + t) = x.up := by
 rcases runsT_mem.1 hx with ⟨i, hi, hb, rfl⟩ | ⟨ha, rfl⟩
 ·unfold runAt at *
  dsimp only at *
  exact (lenT_is hb).same t (by omega)
 ·have he := (endless_iff h0).1 ha
  dsimp only
  rw [he (0 + t)]
/-- two floats have no point in common -/
theorem runs_apart {l : List Bool} (h0 : 0 < l.length) : (runsT l).Pairwise fun x y => ∀ t t', t < min x.len l.length → t' < min y.len l.length → (x.first + t) % l.length ≠ (y.first + t') % l.length := by
 cases ha : anyTo l l.length with
 | false =>
  have : runsT l = [⟨0, 1000, gb l 0⟩] := by
   unfold runsT lastT
   rw [(anyTo_runs l l.length).1 ha, ha]; rfl
  rw [this]
  exact List.pairwise_singleton _ _
 | true =>
  have hr : runsT l = ((List.range l.length).filter (begs l)).map (runAt l) := by
   unfold runsT lastT runsTo
   rw [ha]; simp
  rw [hr, List.pairwise_map]
  have hn : ((List.range l.length).filter (begs l)).Pairwise (· < ·) := List.Pairwise.filter _ List.pairwise_lt_range
  refine (pairwise_and_mem hn (P := fun i => i < l.length ∧ begs l i = true) fun a ha => ?_).imp ?_
  ·obtain ⟨h1, h2⟩ := List.mem_filter.1 ha
   exact ⟨List.mem_range.1 h1, h2⟩
  ·rintro i j ⟨⟨hi, bi⟩, ⟨hj, bj⟩, hlt⟩ t t' ht ht' he
   unfold runAt at *
   dsimp only at *
   have Li := lenT_is bi
   have Lj := lenT_is bj
   have cong : ∀ {a c : Nat}, a % l.length = c % l.length → begs l a = begs l c := fun h => by rw [← begs_mod l, h, begs_mod]
   have sub : ∀ {a c t t' : Nat}, t' ≤ t → (a + t) % l.length = (c + t') % l.length → (a + (t - t')) % l.length = c % l.length := by
    intro a c t t' hle h
    have h1 := Nat.div_add_mod (a + t) l.length
    have h2 := Nat.div_add_mod (c + t') l.length
    rw [h] at h1
    rcases Nat.le_total ((a + t) / l.length) ((c + t') / l.length) with hq | hq
    ·obtain ⟨d, hd⟩ := Nat.exists_eq_add_of_le hq
     rw [hd, Nat.mul_add] at h2
     have : c = a + (t - t') + l.length * d := by omega
     rw [this, Nat.add_mul_mod_self_left]
    ·obtain ⟨d, hd⟩ := Nat.exists_eq_add_of_le hq
     rw [hd, Nat.mul_add] at h1
     have : a + (t - t') = c + l.length * d := by omega
     rw [this, Nat.add_mul_mod_self_left]
   rcases Nat.lt_or_ge t t' with h | h
   ·have e := sub (Nat.le_of_lt h) he.symm
    have := Lj.begs (t' - t) (by omega) (by omega)
    rw [cong e, bi] at this; cases this
   ·have e := sub h he
    rcases Nat.eq_zero_or_pos (t - t') with h3 | h3
    ·rw [h3, Nat.add_zero, Nat.mod_eq_of_lt hi, Nat.mod_eq_of_lt hj] at e
     omega
    ·have := Li.begs (t - t') h3 (by omega)
     rw [cong e, bj] at this; cases this
theorem win_off {H b : Nat} {x : RunT} {j k : Nat} (hj : j < winM H b x) (hk : k ≤ b) : j * (b + 1) + k < min x.len H := by
 unfold winM at hj
 have h1 : (j + 1) * (b + 1) ≤ min x.len H := by
  have : (min x.len H / (b + 1)) * (b + 1) ≤ min x.len H := Nat.div_mul_le_self _ _
  have h2 : (j + 1) * (b + 1) ≤ (min x.len H / (b + 1)) * (b + 1) := Nat.mul_le_mul_right _ hj
  omega
 rw [Nat.succ_mul] at h1
 omega
theorem win_at {l : List Bool} {b a : Nat} (ha : a ∈ winL l b) : ∃ x ∈ runsT l, ∃ j, j < winM l.length b x ∧ a = (x.first + j * (b + 1)) % l.length := by
 unfold winL at ha
 obtain ⟨x, hx, ha⟩ := List.mem_flatMap.1 ha
 obtain ⟨j, hj, rfl⟩ := List.mem_map.1 ha
 exact ⟨x, hx, j, List.mem_range.1 hj, rfl⟩
theorem win_lt {l : List Bool} (h0 : 0 < l.length) {b a : Nat} (ha : a ∈ winL l b) : a < l.length ∧ b + 1 ≤ l.length := by
 obtain ⟨x, hx, j, hj, rfl⟩ := win_at ha
 have := win_off hj (Nat.le_refl b)
 exact ⟨Nat.mod_lt _ h0, by omega⟩
/-- all points of a window are alike -/
theorem win_same {l : List Bool} (h0 : 0 < l.length) {b a : Nat} (ha : a ∈ winL l b) {k : Nat} (hk : k ≤ b) : gb l (a + k) = gb l a := by
 obtain ⟨x, hx, j, hj, rfl⟩ := win_at ha
 have e : ∀ k, k ≤ b → gb l ((x.first + j * (b + 1)) % l.length + k) = x.up := fun k hk => by
  rw [gb_congr (show ((x.first + j * (b + 1)) % l.length + k) % l.length = (x.first + (j * (b + 1) + k)) % l.length by rw [Nat.mod_add_mod]; congr 1; omega)]
  exact run_same hx h0 (win_off hj hk)
 rw [e k hk]
 have := e 0 (Nat.zero_le _)
 rw [Nat.add_zero] at this
 exact this.symm
/-- windows have no point in common -/
theorem wins_apart {l : List Bool} (h0 : 0 < l.length) (b : Nat) : (winL l b).Pairwise fun a a' => ∀ k k', k ≤ b → k' ≤ b → (a + k) % l.length ≠ (a' + k') % l.length := by
 unfold winL
 rw [List.pairwise_flatMap]
 have tr : ∀ (x : RunT) (j k : Nat), ((x.first + j * (b + 1)) % l.length + k) % l.length = (x.first + (j * (b + 1) + k)) % l.length := fun x j k => by
  rw [Nat.mod_add_mod]; congr 1; omega
 constructor
 ·intro x hx
  rw [List.pairwise_map]
  refine (pairwise_and_mem (P := fun j => j < winM l.length b x) List.pairwise_lt_range fun j hj => List.mem_range.1 hj).imp ?_
  rintro j j' ⟨h1, h2, hlt⟩ k k' hk hk' he
  rw [tr, tr] at he
  have o1 := win_off h1 hk
  have o2 := win_off h2 hk'
  have := add_mod_inj (by omega) (by omega) he
  have h3 : (j + 1) * (b + 1) ≤ j' * (b + 1) := Nat.mul_le_mul_right _ hlt
  rw [Nat.succ_mul] at h3
  omega
 ·refine (runs_apart h0).imp ?_
  intro x y hxy a ha a' ha' k k' hk hk' he
  obtain ⟨j, hj, rfl⟩ := List.mem_map.1 ha
  obtain ⟨j', hj', rfl⟩ := List.mem_map.1 ha'
  rw [tr, tr] at he
  exact hxy _ _ (win_off (List.mem_range.1 hj) hk) (win_off (List.mem_range.1 hj') hk') he
theorem choose_list {α β : Type} (l : List α) (P : α → β → Prop) (h : ∀ a ∈ l, ∃ b, P a b) (b0 : β) : ∃ f : α → β, ∀ a ∈ l, P a (f a) := by
 classical
 refine ⟨fun a => if h : ∃ b, P a b then h.choose else b0, fun a ha => ?_⟩
 have := h a ha
 simp only [dif_pos this]
 exact this.choose_spec
/-- in each window a point must be changed -/
theorem wins_le {l y : List Bool} (h0 : 0 < l.length) (hy : y.length = l.length) {b : Nat} (hB : BD y b) : (winL l b).length ≤ cntN (fun p => gb y p != gb l p) l.length := by
 have hex : ∀ a ∈ winL l b, ∃ k, k ≤ b ∧ (gb y ((a + k) % l.length) != gb l ((a + k) % l.length)) = true := fun a ha => by
  refine Classical.byContradiction fun hno => ?_
  have hsame : ∀ k, k ≤ b → gb y (a + k) = gb l (a + k) := fun k hk => by
   have h1 : ¬ (gb y ((a + k) % l.length) != gb l ((a + k) % l.length)) = true := fun h => hno ⟨k, hk, h⟩
   have h2 := gb_mod y (a + k)
   rw [hy] at h2
   rw [← h2, ← gb_mod l (a + k)]
   simpa using h1
  obtain ⟨k, hk, hne⟩ := hB a
  apply hne
  have e0 := hsame 0 (Nat.zero_le _)
  rw [Nat.add_zero] at e0
  rw [hsame k hk, win_same h0 ha hk, e0]
 obtain ⟨f, hf⟩ := choose_list _ _ hex 0
 have hnd : ((winL l b).map fun a => (a + f a) % l.length).Nodup := by
  unfold List.Nodup
  rw [List.pairwise_map]
  refine (pairwise_and_mem (wins_apart h0 b) (P := fun a => f a ≤ b) fun a ha => (hf a ha).1).imp ?_
  rintro a a' ⟨h1, h2, h3⟩
  exact h3 _ _ h1 h2
 have hsub : ((winL l b).map fun a => (a + f a) % l.length) ⊆ (List.range l.length).filter fun p => gb y p != gb l p := by
  intro p hp
  obtain ⟨a, ha, rfl⟩ := List.mem_map.1 hp
  exact List.mem_filter.2 ⟨List.mem_range.2 (Nat.mod_lt _ h0), (hf a ha).2⟩
 have := List.Nodup.length_le_of_subset hnd hsub
 rw [List.length_map] at this
 exact this
end Go.Abs
