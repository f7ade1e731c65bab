/-
 Several texts: MO, MP, MV, MW, MX.
-/
import Derived.KernelRfl
set_option linter.all false
namespace Go.Abs.Mo
def bestTo (num : Nat → Int) (ok : Bool) (p : Nat) (run : Nat → Nat) : Nat → Nat
 | 0 => 0
 | k + 1 => max (bestTo num ok p run k) (if 0 < run k ∧ ok = true ∧ num k < num p then run k + 1 else 0)
def stage (n f : Nat) (num : Nat → Int) (W : Nat → Bool) : Nat → Nat → Nat
 | 0 => fun i => if i = f then 1 else 0
 | j + 1 => fun i => if i = (f + j) % n then max (stage n f num W j i) (bestTo num (!W i) i (stage n f num W j) n) else stage n f num W j i
theorem best_le {num : Nat → Int} {ok : Bool} {p : Nat} {run : Nat → Nat} {B : Nat} : ∀ k, bestTo num ok p run k ≤ B ↔ ∀ i, i < k → 0 < run i → ok = true → num i < num p → run i + 1 ≤ B
 | 0 => by simp [bestTo]
 | k + 1 => by
  rw [bestTo, Nat.max_le, best_le k];constructor
  ·rintro ⟨h1, h2⟩ i hi a b c
   by_cases e : i = k
   ·subst e
    rw [if_pos ⟨a, b, c⟩] at h2;exact h2
   ·exact h1 i (by omega) a b c
  ·intro h
   refine ⟨fun i hi => h i (by omega), ?_⟩
   by_cases c : 0 < run k ∧ ok = true ∧ num k < num p
   ·rw [if_pos c]; exact h k (by omega) c.1 c.2.1 c.2.2
   ·rw [if_neg c]; omega
theorem best_some {num : Nat → Int} {ok : Bool} {p : Nat} {run : Nat → Nat} : ∀ k, 0 < bestTo num ok p run k → ∃ i, i < k ∧ 0 < run i ∧ ok = true ∧ num i < num p ∧ bestTo num ok p run k = run i + 1
 | 0, h => by simp [bestTo] at h
 | k + 1, h => by
  rw [bestTo] at h ⊢;by_cases c : 0 < run k ∧ ok = true ∧ num k < num p
  ·rw [if_pos c] at h ⊢
   by_cases c2 : bestTo num ok p run k ≤ run k + 1
   ·exact ⟨k, by omega, c.1, c.2.1, c.2.2, by omega⟩
   ·obtain ⟨i, h1, h2, h3, h4, h5⟩ := best_some (num := num) (ok := ok) (p := p) (run := run) k (by omega)
    exact ⟨i, by omega, h2, h3, h4, by omega⟩
  ·rw [if_neg c] at h ⊢
   obtain ⟨i, h1, h2, h3, h4, h5⟩ := best_some (num := num) (ok := ok) (p := p) (run := run) k (by omega)
   exact ⟨i, by omega, h2, h3, h4, by omega⟩
inductive Asc (A : Nat → Int) (ok : Nat → Bool) : List Nat → Prop
 | one : Asc A ok [0]
 | cons {i j : Nat} {l : List Nat} : Asc A ok (i :: l) → i < j → ok j = true → A i < A j → Asc A ok (j :: i :: l)
theorem Asc.last {A : Nat → Int} {ok : Nat → Bool} {l : List Nat} (h : Asc A ok l) : ∃ i r, l = i :: r := by
 cases h with
 | one => exact ⟨0, [], rfl⟩
 | cons h1 _ _ _ => exact ⟨_, _, rfl⟩
section
variable {n f : Nat} {num : Nat → Int} {W : Nat → Bool} (hn : 0 < n) (hf : f < n)
include hf
theorem pl_inj {i j : Nat} (hi : i < n) (hj : j < n) (h : (f + i) % n = (f + j) % n) : i = j := by
 have key : ∀ x, x < n → (f + x) % n = if f + x < n then f + x else f + x - n := fun x hx => by
  by_cases c : f + x < n
  ·rw [if_pos c, Nat.mod_eq_of_lt c]
  ·rw [if_neg c, Nat.mod_eq_sub_mod (by omega), Nat.mod_eq_of_lt (by omega)]
 rw [key i hi, key j hj] at h;split at h <;> split at h <;> omega
theorem pl_of {p : Nat} (hp : p < n) : ∃ j, j < n ∧ (f + j) % n = p := by
 by_cases c : f ≤ p
 ·exact ⟨p - f, by omega, by rw [show f + (p - f) = p by omega, Nat.mod_eq_of_lt hp]⟩
 ·exact ⟨p + n - f, by omega, by rw [show f + (p + n - f) = p + n by omega, Nat.add_mod_right, Nat.mod_eq_of_lt hp]⟩
theorem stage_later : ∀ j i, j ≤ i → i < n → stage n f num W j ((f + i) % n) = if i = 0 then 1 else 0
 | 0, i, _, hi => by
  have e : ((f + i) % n = f) ↔ i = 0 := by
   constructor
   ·intro h
    exact pl_inj hf hi (by omega) (by rw [h, Nat.add_zero, Nat.mod_eq_of_lt hf])
   ·rintro rfl; rw [Nat.add_zero, Nat.mod_eq_of_lt hf]
  simp only [stage, e]
 | j + 1, i, hj, hi => by
  have hne : (f + i) % n ≠ (f + j) % n := fun h => by
   have := pl_inj hf hi (by omega) h
   omega
  rw [stage];dsimp only;rw [if_neg hne, stage_later j i (by omega) hi]
theorem stage_stays {i : Nat} (hi : i < n) : ∀ k, i + 1 + k ≤ n → stage n f num W (i + 1 + k) ((f + i) % n) = stage n f num W (i + 1) ((f + i) % n)
 | 0, _ => rfl
 | k + 1, hk => by
  have hne : (f + i) % n ≠ (f + (i + 1 + k)) % n := fun h => by
   have := pl_inj hf hi (by omega) h
   omega
  rw [← Nat.add_assoc, stage];dsimp only;rw [if_neg hne, stage_stays hi k (by omega)]
def got (n f : Nat) (num : Nat → Int) (W : Nat → Bool) (i : Nat) : Nat := stage n f num W (i + 1) ((f + i) % n)
theorem stage_got {i j : Nat} (h : i < j) (hj : j ≤ n) : stage n f num W j ((f + i) % n) = got n f num W i := by
 have := stage_stays (num := num) (W := W) hf (show i < n by omega) (j - (i + 1)) (by omega)
 rw [show i + 1 + (j - (i + 1)) = j by omega] at this
 exact this
theorem got_is {i : Nat} (hi : i < n) : got n f num W i = max (if i = 0 then 1 else 0) (bestTo num (!W ((f + i) % n)) ((f + i) % n) (stage n f num W i) n) := by
 unfold got;rw [stage];dsimp only;rw [if_pos rfl, stage_later hf i i (Nat.le_refl _) hi]
theorem asc_le {l : List Nat} (h : Asc (fun j => num ((f + j) % n)) (fun j => !W ((f + j) % n)) l) : ∀ i r, l = i :: r → i < n → l.length ≤ got n f num W i := by
 induction h with
 | one =>
  intro i r e hi;simp only [List.cons.injEq] at e;obtain ⟨rfl, rfl⟩ := e;rw [got_is hf hi, if_pos rfl];simp only [List.length_cons, List.length_nil];omega
 | @cons i j l h1 h2 h3 h4 ih =>
  intro i' r e hj;simp only [List.cons.injEq] at e;obtain ⟨rfl, rfl⟩ := e;have h5 := ih i l rfl (by omega)
  have h6 := stage_got (num := num) (W := W) hf h2 (show j ≤ n by omega)
  rw [got_is hf hj];have h7 := (best_le (num := num) (ok := !W ((f + j) % n)) (p := (f + j) % n) (run := stage n f num W j) n).1 (Nat.le_refl _) ((f + i) % n) (Nat.mod_lt _ (by omega))
   (by rw [h6]; simp only [List.length_cons] at h5; omega) h3 h4
  rw [h6] at h7;simp only [List.length_cons] at h5 ⊢;omega
theorem got_asc : ∀ i, i < n → 0 < got n f num W i → ∃ r, Asc (fun j => num ((f + j) % n)) (fun j => !W ((f + j) % n)) (i :: r) ∧ (i :: r).length = got n f num W i := by
 intro i;induction i using Nat.strongRecOn with
 | _ i ih =>
  intro hi hp;rw [got_is hf hi] at hp ⊢;by_cases c : bestTo num (!W ((f + i) % n)) ((f + i) % n) (stage n f num W i) n ≤ if i = 0 then 1 else 0
  ·rw [Nat.max_eq_left c] at hp ⊢
   by_cases c0 : i = 0
   ·subst c0; exact ⟨[], .one, rfl⟩
   ·rw [if_neg c0] at hp; omega
  ·rw [Nat.max_eq_right (by omega)] at hp ⊢
   obtain ⟨p, h1, h2, h3, h4, h5⟩ := best_some n hp;obtain ⟨k, hk, rfl⟩ := pl_of (n := n) hf h1;have hki : k < i := by
    apply Classical.byContradiction;intro hc;have h6 := stage_later (num := num) (W := W) hf i k (by omega) hk
    rw [h6] at h2;have hk0 : k = 0 := by
     apply Classical.byContradiction;intro h0;rw [if_neg h0] at h2; omega
    have hi0 : i = 0 := by omega
    subst hk0 hi0;omega
   have h6 := stage_got (num := num) (W := W) hf hki (show i ≤ n by omega)
   rw [h6] at h2 h5;obtain ⟨r, hr, hl⟩ := ih k hki hk h2;exact ⟨k :: r, .cons hr hki h3 h4, by simp only [List.length_cons] at hl ⊢; omega⟩
end
end Go.Abs.Mo
set_option linter.all false
namespace Go.Abs.Mo
theorem pigO : ∀ (L M : List Nat), L.Nodup → (∀ x ∈ L, x ∈ M) → L.length ≤ M.length
 | [], M, _, _ => by simp
 | x :: L, M, hn, h => by
  rw [List.nodup_cons] at hn;have hx := h x (by simp)
  have h1 := pigO L (M.erase x) hn.2 fun y hy => (List.mem_erase_of_ne (fun e : y = x => hn.1 (by rw [← e]; exact hy))).2 (h y (by simp [hy]))
  rw [List.length_erase_of_mem hx] at h1;have := List.length_pos_of_mem hx;simp only [List.length_cons];omega
def fromTo (n f : Nat) (num : Nat → Int) (W : Nat → Bool) : Nat → Nat
 | 0 => 0
 | j + 1 => max (fromTo n f num W j) (got n f num W j)
theorem from_le {n f : Nat} {num : Nat → Int} {W : Nat → Bool} {B : Nat} : ∀ k, fromTo n f num W k ≤ B ↔ ∀ i, i < k → got n f num W i ≤ B
 | 0 => by simp [fromTo]
 | k + 1 => by
  rw [fromTo, Nat.max_le, from_le k];constructor
  ·rintro ⟨h1, h2⟩ i hi
   by_cases e : i = k
   ·subst e; exact h2
   ·exact h1 i (by omega)
  ·intro h
   exact ⟨fun i hi => h i (by omega), h k (by omega)⟩
theorem from_at {n f : Nat} {num : Nat → Int} {W : Nat → Bool} : ∀ k, 0 < fromTo n f num W k → ∃ i, i < k ∧ got n f num W i = fromTo n f num W k
 | 0, h => by simp [fromTo] at h
 | k + 1, h => by
  rw [fromTo] at h ⊢;by_cases c : fromTo n f num W k ≤ got n f num W k
  ·exact ⟨k, by omega, by omega⟩
  ·obtain ⟨i, h1, h2⟩ := from_at (n := n) (f := f) (num := num) (W := W) k (by omega)
   exact ⟨i, by omega, by omega⟩
def keptTo (n : Nat) (num : Nat → Int) (W : Nat → Bool) : Nat → Nat
 | 0 => 0
 | f + 1 => if W f = false then max (keptTo n num W f) (fromTo n f num W n) else keptTo n num W f
theorem kept_le {n : Nat} {num : Nat → Int} {W : Nat → Bool} {B : Nat} : ∀ k, keptTo n num W k ≤ B ↔ ∀ f, f < k → W f = false → fromTo n f num W n ≤ B
 | 0 => by simp [keptTo]
 | k + 1 => by
  rw [keptTo];by_cases c : W k = false
  ·rw [if_pos c, Nat.max_le, kept_le k]
   constructor
   ·rintro ⟨h1, h2⟩ f hf hw
    by_cases e : f = k
    ·subst e; exact h2
    ·exact h1 f (by omega) hw
   ·intro h
    exact ⟨fun f hf => h f (by omega), h k (by omega) c⟩
  ·rw [if_neg c, kept_le k]
   constructor
   ·intro h f hf hw
    by_cases e : f = k
    ·subst e; exact absurd hw c
    ·exact h f (by omega) hw
   ·intro h f hf
    exact h f (by omega)
theorem kept_at {n : Nat} {num : Nat → Int} {W : Nat → Bool} : ∀ k, 0 < keptTo n num W k → ∃ f, f < k ∧ W f = false ∧ fromTo n f num W n = keptTo n num W k
 | 0, h => by simp [keptTo] at h
 | k + 1, h => by
  rw [keptTo] at h ⊢;by_cases c : W k = false
  ·rw [if_pos c] at h ⊢
   by_cases c2 : keptTo n num W k ≤ fromTo n k num W n
   ·exact ⟨k, by omega, c, by omega⟩
   ·obtain ⟨f, h1, h2, h3⟩ := kept_at (n := n) (num := num) (W := W) k (by omega)
    exact ⟨f, by omega, h2, by omega⟩
  ·rw [if_neg c] at h ⊢
   obtain ⟨f, h1, h2, h3⟩ := kept_at (n := n) (num := num) (W := W) k h;exact ⟨f, by omega, h2, h3⟩
structure Round (n : Nat) (num : Nat → Int) (W : Nat → Bool) (f : Nat) (l : List Nat) : Prop where
 f1 : f < n
 wf : W f = false
 lt : ∀ j ∈ l, j < n
 asc : Asc (fun j => num ((f + j) % n)) (fun j => !W ((f + j) % n)) l
theorem Asc.ok' {A : Nat → Int} {ok : Nat → Bool} {l : List Nat} (h : Asc A ok l) (h0 : ok 0 = true) : ∀ j ∈ l, ok j = true := by
 induction h with
 | one => intro j hj; rw [List.mem_singleton.1 hj]; exact h0
 | cons h1 h2 h3 h4 ih =>
  intro j hj;rcases List.mem_cons.1 hj with rfl | hj
  ·exact h3
  ·exact ih j hj
theorem Asc.desc {A : Nat → Int} {ok : Nat → Bool} {l : List Nat} (h : Asc A ok l) : ∀ i r, l = i :: r → ∀ j ∈ r, j < i ∧ A j < A i := by
 induction h with
 | one =>
  intro i r e j hj;simp only [List.cons.injEq] at e;rw [← e.2] at hj;cases hj
 | @cons i j l h1 h2 h3 h4 ih =>
  intro i' r e k hk;simp only [List.cons.injEq] at e;obtain ⟨rfl, rfl⟩ := e;rcases List.mem_cons.1 hk with rfl | hk
  ·exact ⟨h2, h4⟩
  ·have := ih i l rfl k hk
   exact ⟨by omega, by omega⟩
theorem Asc.nodup {A : Nat → Int} {ok : Nat → Bool} {l : List Nat} (h : Asc A ok l) : l.Nodup := by
 induction h with
 | one => simp
 | @cons i j l h1 h2 h3 h4 ih =>
  refine List.nodup_cons.2 ⟨fun hm => ?_, ih⟩
  rcases List.mem_cons.1 hm with e | hm
  ·omega
  ·have := h1.desc i l rfl j hm
   omega
theorem Asc.zero {A : Nat → Int} {ok : Nat → Bool} {l : List Nat} (h : Asc A ok l) : 0 ∈ l := by
 induction h with
 | one => simp
 | cons h1 h2 h3 h4 ih => exact List.mem_cons_of_mem _ ih
theorem Asc.mono {A : Nat → Int} {ok ok' : Nat → Bool} {l : List Nat} (h : Asc A ok l) (hk : ∀ j ∈ l, ok j = true → ok' j = true) : Asc A ok' l := by
 induction h with
 | one => exact .one
 | cons h1 h2 h3 h4 ih => exact .cons (ih fun j hj => hk j (List.mem_cons_of_mem _ hj)) h2 (hk _ (by simp) h3) h4
theorem Round.le {n : Nat} {num : Nat → Int} {W : Nat → Bool} {f : Nat} {l : List Nat} (h : Round n num W f l) : l.length ≤ keptTo n num W n := by
 obtain ⟨i, r, rfl⟩ := h.asc.last;have h1 := asc_le h.f1 h.asc i r rfl (h.lt i (by simp))
 have h2 := (from_le (n := n) (f := f) (num := num) (W := W) n).1 (Nat.le_refl _) i (h.lt i (by simp))
 have h3 := (kept_le (n := n) (num := num) (W := W) n).1 (Nat.le_refl _) f h.f1 h.wf;omega
theorem round_of {n : Nat} {num : Nat → Int} {W : Nat → Bool} (h : 0 < keptTo n num W n) : ∃ f l, Round n num W f l ∧ l.length = keptTo n num W n := by
 obtain ⟨f, h1, h2, h3⟩ := kept_at n h;obtain ⟨i, h4, h5⟩ := from_at (n := n) (f := f) (num := num) (W := W) n (by omega)
 obtain ⟨r, h6, h7⟩ := got_asc (num := num) (W := W) h1 i h4 (by omega)
 refine ⟨f, i :: r, ⟨h1, h2, fun j hj => ?_, h6⟩, by omega⟩
 rcases List.mem_cons.1 hj with rfl | hj
 ·exact h4
 ·have := (h6.desc i r rfl j hj).1; omega
def stay (n : Nat) (W : Nat → Bool) : List Nat := (List.range n).filter fun i => !W i
theorem mem_stay {n : Nat} {W : Nat → Bool} {i : Nat} : i ∈ stay n W ↔ i < n ∧ W i = false := by
 unfold stay;rw [List.mem_filter, List.mem_range];simp
theorem stay_nodup (n : Nat) (W : Nat → Bool) : (stay n W).Nodup := List.Pairwise.filter _ List.nodup_range
theorem map_nodupO {g : Nat → Nat} : ∀ l : List Nat, l.Nodup → (∀ a ∈ l, ∀ b ∈ l, g a = g b → a = b) → (l.map g).Nodup
 | [], _, _ => List.nodup_nil
 | x :: l, h, hi => by
  rw [List.nodup_cons] at h;rw [List.map_cons, List.nodup_cons];refine ⟨fun hm => ?_, map_nodupO l h.2 fun a ha b hb => hi a (by simp [ha]) b (by simp [hb])⟩
  obtain ⟨y, hy, e⟩ := List.mem_map.1 hm;have := hi y (by simp [hy]) x (by simp) e
  rw [this] at hy;exact h.1 hy
theorem Round.map_nodup {n : Nat} {num : Nat → Int} {W : Nat → Bool} {f : Nat} {l : List Nat} (h : Round n num W f l) : (l.map fun j => (f + j) % n).Nodup := by
 exact map_nodupO l h.asc.nodup fun a ha b hb e => pl_inj h.f1 (h.lt a ha) (h.lt b hb) e
theorem Round.sub {n : Nat} {num : Nat → Int} {W : Nat → Bool} {f : Nat} {l : List Nat} (h : Round n num W f l) : ∀ x ∈ l.map (fun j => (f + j) % n), x ∈ stay n W := fun x hx => by
 obtain ⟨j, hj, rfl⟩ := List.mem_map.1 hx;have hf := h.f1;have := h.asc.ok' (by simp [Nat.mod_eq_of_lt hf, h.wf]) j hj
 exact mem_stay.2 ⟨Nat.mod_lt _ (by omega), by simpa using this⟩
theorem kept_stay {n : Nat} {num : Nat → Int} {W : Nat → Bool} : keptTo n num W n ≤ (stay n W).length := by
 by_cases h : 0 < keptTo n num W n
 ·obtain ⟨f, l, hr, hl⟩ := round_of h
  have := pigO _ _ hr.map_nodup hr.sub;rw [List.length_map] at this;omega
 ·omega
def more (W : Nat → Bool) (p : Nat) : Nat → Bool := fun i => if i = p then true else W i
theorem Round.avoid {n : Nat} {num : Nat → Int} {W : Nat → Bool} {f p : Nat} {l : List Nat} (h : Round n num W f l) (hp : p ∉ l.map fun j => (f + j) % n) : Round n num (more W p) f l where
 f1 := h.f1
 wf := by
  have hf := h.f1;have h0 : f ∈ l.map fun j => (f + j) % n := List.mem_map.2 ⟨0, h.asc.zero, by rw [Nat.add_zero, Nat.mod_eq_of_lt hf]⟩
  unfold more;rw [if_neg (fun e => hp (by rw [← e]; exact h0))]
  exact h.wf
 lt := h.lt
 asc := h.asc.mono fun j hj hk => by
  unfold more;rw [if_neg (fun e => hp (by rw [← e]; exact List.mem_map.2 ⟨j, hj, rfl⟩))]
  exact hk
theorem Round.less {n : Nat} {num : Nat → Int} {W W' : Nat → Bool} {f : Nat} {l : List Nat} (h : Round n num W f l) (hs : ∀ i, W i = false → W' i = false) : Round n num W' f l where
 f1 := h.f1
 wf := hs _ h.wf
 lt := h.lt
 asc := h.asc.mono fun j _ hk => by
  have := hs ((f + j) % n) (by simpa using hk)
  simp [this]
theorem kept_mono {n : Nat} {num : Nat → Int} {W W' : Nat → Bool} (hs : ∀ i, W i = false → W' i = false) : keptTo n num W n ≤ keptTo n num W' n := by
 by_cases h : 0 < keptTo n num W n
 ·obtain ⟨f, l, hr, hl⟩ := round_of h
  have := (hr.less hs).le;omega
 ·omega
theorem kept_all {n : Nat} {num : Nat → Int} {W : Nat → Bool} (h0 : 0 < keptTo n num W n) (h : ∀ p, p < n → W p = false → keptTo n num (more W p) n < keptTo n num W n) : keptTo n num W n = (stay n W).length := by
 obtain ⟨f, l, hr, hl⟩ := round_of h0;have h1 := kept_stay (n := n) (num := num) (W := W);have h2 : (stay n W).length ≤ (l.map fun j => (f + j) % n).length := pigO _ _ (stay_nodup n W) fun p hp => by
  obtain ⟨h3, h4⟩ := mem_stay.1 hp;apply Classical.byContradiction;intro hc;have h5 := (hr.avoid hc).le;have h6 := h p h3 h4;omega
 rw [List.length_map] at h2;omega
theorem stay_round {n : Nat} {num : Nat → Int} {W : Nat → Bool} (h0 : 0 < keptTo n num W n) (h : keptTo n num W n = (stay n W).length) : ∃ f, f < n ∧ W f = false ∧ ∀ a b, a < n → b < n → W a = false → W b = false → ∀ i j, i < j → j < n → (f + i) % n = a → (f + j) % n = b → num a < num b := by
 obtain ⟨f, l, hr, hl⟩ := round_of h0;have hall : ∀ p, p ∈ stay n W → p ∈ l.map fun j => (f + j) % n := fun p hp => by
  apply Classical.byContradiction;intro hc;have h1 := pigO (p :: l.map fun j => (f + j) % n) (stay n W) (List.nodup_cons.2 ⟨hc, hr.map_nodup⟩) fun x hx => by
   rcases List.mem_cons.1 hx with rfl | hx
   ·exact hp
   ·exact hr.sub x hx
  rw [List.length_cons, List.length_map] at h1;omega
 have hord : ∀ {L : List Nat}, Asc (fun j => num ((f + j) % n)) (fun j => !W ((f + j) % n)) L → ∀ i ∈ L, ∀ j ∈ L, i < j → num ((f + i) % n) < num ((f + j) % n) := fun {L} hL => by
  induction hL with
  | one =>
   intro i hi j hj hij;rw [List.mem_singleton.1 hi, List.mem_singleton.1 hj] at hij;omega
  | @cons x y l h1 h2 h3 h4 ih =>
   have hA : Asc (fun j => num ((f + j) % n)) (fun j => !W ((f + j) % n)) (y :: x :: l) := .cons h1 h2 h3 h4
   intro i hi j hj hij;rcases List.mem_cons.1 hi with rfl | hi'
   ·rcases List.mem_cons.1 hj with rfl | hj'
    ·omega
    ·have := (hA.desc i _ rfl j hj').1
     omega
   ·rcases List.mem_cons.1 hj with rfl | hj'
    ·exact (hA.desc j _ rfl i hi').2
    ·exact ih i hi' j hj' hij
 refine ⟨f, hr.f1, hr.wf, fun a b ha hb wa wb i j hij hj ea eb => ?_⟩
 obtain ⟨i', hi', e1⟩ := List.mem_map.1 (hall a (mem_stay.2 ⟨ha, wa⟩));obtain ⟨j', hj', e2⟩ := List.mem_map.1 (hall b (mem_stay.2 ⟨hb, wb⟩));have f1 := pl_inj hr.f1 (hr.lt i' hi') (show i < n by omega) (by rw [e1, ea])
 have f2 := pl_inj hr.f1 (hr.lt j' hj') hj (by rw [e2, eb])
 subst f1 f2;have := hord hr.asc i' hi' j' hj' hij;rw [e1, e2] at this;exact this
end Go.Abs.Mo
set_option linter.all false
namespace Go.Abs.Mo
def inL (l : List Nat) : Nat → Bool := fun i => decide (i ∈ l)
theorem inL_snoc (l : List Nat) (k : Nat) : inL (l ++ [k]) = more (inL l) k := by
 funext i;unfold inL more;by_cases h : i = k
 ·simp [h]
 ·simp [h]
theorem more_comm (W : Nat → Bool) (p k : Nat) : more (more W k) p = more (more W p) k := by
 funext i;unfold more;split <;> split <;> rfl
structure MovOk (n : Nat) (num : Nat → Int) (l : List Nat) : Prop where
 asc : l.Pairwise (· < ·)
 lt : ∀ i ∈ l, i < n
 same : keptTo n num (inL l) n = keptTo n num (fun _ => false) n
 all : keptTo n num (inL l) n = (stay n (inL l)).length
 pos : 0 < keptTo n num (inL l) n
structure MovTo (n : Nat) (num : Nat → Int) (k : Nat) (l : List Nat) : Prop where
 asc : l.Pairwise (· < ·)
 lt : ∀ i ∈ l, i < k
 same : keptTo n num (inL l) n = keptTo n num (fun _ => false) n
 need : ∀ p, p < k → inL l p = false → keptTo n num (more (inL l) p) n < keptTo n num (fun _ => false) n
theorem stay_count {n : Nat} {l : List Nat} (ha : l.Pairwise (· < ·)) (hl : ∀ i ∈ l, i < n) : (stay n (inL l)).length + l.length = n := by
 have hn : l.Nodup := ha.imp fun h => by omega
 have h1 : (stay n (inL l) ++ l).Nodup := List.nodup_append.2 ⟨stay_nodup _ _, hn, fun x hx y hy e => by
  subst e;have := (mem_stay.1 hx).2;simp [inL, hy] at this⟩
 have h2 := pigO _ (List.range n) h1 fun x hx => by
  rcases List.mem_append.1 hx with hx | hx
  ·exact List.mem_range.2 (mem_stay.1 hx).1
  ·exact List.mem_range.2 (hl x hx)
 have h3 := pigO (List.range n) (stay n (inL l) ++ l) List.nodup_range fun x hx => by
  by_cases c : x ∈ l
  ·exact List.mem_append.2 (.inr c)
  ·exact List.mem_append.2 (.inl (mem_stay.2 ⟨List.mem_range.1 hx, by simp [inL, c]⟩))
 rw [List.length_append, List.length_range] at h2 h3;omega
theorem kept_pos {n : Nat} {num : Nat → Int} (hn : 0 < n) : 0 < keptTo n num (fun _ => false) n := by
 have : Round n num (fun _ => false) 0 [0] := ⟨hn, rfl, fun j hj => by rw [List.mem_singleton.1 hj]; exact hn, .one⟩
 have := this.le;simp at this;omega
theorem MovTo.zero (n : Nat) (num : Nat → Int) : MovTo n num 0 [] where
 asc := List.Pairwise.nil
 lt := fun i hi => by cases hi
 same := by
  have : inL [] = fun _ => false := by funext i; simp [inL]
  rw [this]
 need := fun p hp => by omega
theorem MovTo.not_in {n : Nat} {num : Nat → Int} {k : Nat} {l : List Nat} (h : MovTo n num k l) : inL l k = false := by
 unfold inL;rw [decide_eq_false_iff_not];intro hm;have := h.lt k hm;omega
theorem MovTo.leave {n : Nat} {num : Nat → Int} {k : Nat} {l : List Nat} (h : MovTo n num k l) (hc : keptTo n num (inL (l ++ [k])) n < keptTo n num (fun _ => false) n) : MovTo n num (k + 1) l where
 asc := h.asc
 lt := fun i hi => by have := h.lt i hi; omega
 same := h.same
 need := fun p hp hw => by
  by_cases e : p = k
  ·subst e; rw [← inL_snoc]; exact hc
  ·exact h.need p (by omega) hw
theorem MovTo.take {n : Nat} {num : Nat → Int} {k : Nat} {l : List Nat} (h : MovTo n num k l) (hc : ¬ keptTo n num (inL (l ++ [k])) n < keptTo n num (fun _ => false) n) : MovTo n num (k + 1) (l ++ [k]) where
 asc := List.pairwise_append.2 ⟨h.asc, List.pairwise_singleton _ _, fun a ha b hb => by rw [List.mem_singleton.1 hb]; exact h.lt a ha⟩
 lt := fun i hi => by
  rcases List.mem_append.1 hi with hi | hi
  ·have := h.lt i hi; omega
  ·rw [List.mem_singleton.1 hi]; omega
 same := by
  have h1 : keptTo n num (inL (l ++ [k])) n ≤ keptTo n num (fun _ => false) n := kept_mono fun _ _ => rfl
  omega
 need := fun p hp hw => by
  rw [inL_snoc] at hw ⊢;have hpk : p ≠ k := fun e => by subst e; simp [more] at hw
  have hw' : inL l p = false := by
   unfold more at hw;rw [if_neg hpk] at hw;exact hw
  have h1 := h.need p (by omega) hw'
  have h2 : keptTo n num (more (more (inL l) k) p) n ≤ keptTo n num (more (inL l) p) n := kept_mono fun i hi => by
   rw [more_comm] at hi;unfold more at hi ⊢;by_cases e : i = k
   ·rw [if_pos e] at hi; cases hi
   ·rw [if_neg e] at hi; exact hi
  omega
theorem MovTo.len {n : Nat} {num : Nat → Int} {k : Nat} {l : List Nat} (h : MovTo n num k l) (hk : k ≤ n) : l.length ≤ n := by
 have := stay_count h.asc fun i hi => Nat.lt_of_lt_of_le (h.lt i hi) hk
 omega
theorem MovTo.end {n : Nat} {num : Nat → Int} {l : List Nat} (hn : 0 < n) (h : MovTo n num n l) : MovOk n num l where
 asc := h.asc
 lt := h.lt
 same := h.same
 pos := by rw [h.same]; exact kept_pos hn
 all := kept_all (by rw [h.same]; exact kept_pos hn) fun p hp hw => by rw [h.same]; exact h.need p hp hw
theorem MovTo.full {n : Nat} {num : Nat → Int} {k : Nat} {l : List Nat} (hk : k < n) (h : MovTo n num (k + 1) l) (hf : l.length + keptTo n num (fun _ => false) n = n) : MovOk n num l where
 asc := h.asc
 lt := fun i hi => by have := h.lt i hi; omega
 same := h.same
 pos := by rw [h.same]; exact kept_pos (by omega)
 all := by
  have := stay_count h.asc (n := n) fun i hi => by have := h.lt i hi; omega
  rw [h.same];omega
end Go.Abs.Mo
set_option linter.all false
namespace Go.Abs.Mo
theorem asc_of {A : Nat → Int} {ok : Nat → Bool} : ∀ (r : List Nat) (i : Nat) (acc : List Nat), Asc A ok (i :: acc) → (∀ j ∈ r, ok j = true) → (i :: r).Pairwise (· < ·) → (i :: r).Pairwise (fun a b => A a < A b) → ∃ l, Asc A ok l ∧ l.length = r.length + acc.length + 1 ∧ ∀ j ∈ l, j ∈ r ∨ j ∈ i :: acc
 | [], i, acc, h, _, _, _ => ⟨i :: acc, h, by simp, fun j hj => .inr hj⟩
 | x :: r, i, acc, h, h1, h2, h3 => by
  rw [List.pairwise_cons] at h2 h3;obtain ⟨l, a1, a2, a3⟩ := asc_of r x (i :: acc) (.cons h (h2.1 x (by simp)) (h1 x (by simp)) (h3.1 x (by simp))) (fun j hj => h1 j (by simp [hj])) h2.2 h3.2
  refine ⟨l, a1, by rw [a2]; simp; omega, fun j hj => ?_⟩
  rcases a3 j hj with h | h
  ·exact .inl (by simp [h])
  ·rcases List.mem_cons.1 h with rfl | h
   ·exact .inl (by simp)
   ·exact .inr h
theorem list_kept {n : Nat} {num : Nat → Int} {ks : List Nat} (h1 : ks.Pairwise (· < ·)) (h2 : ∀ k ∈ ks, k < n) (h3 : ks.Pairwise fun a b => num a < num b) (h0 : ks ≠ []) : ks.length ≤ keptTo n num (fun _ => false) n := by
 obtain ⟨f, r, rfl⟩ : ∃ f r, ks = f :: r := by
  cases ks with
  | nil => exact absurd rfl h0
  | cons f r => exact ⟨f, r, rfl⟩
 have hf := h2 f (by simp)
 have hlt := List.pairwise_cons.1 h1;have key : ∀ j ∈ r, (f + (j - f)) % n = j := fun j hj => by
  have := hlt.1 j hj;rw [show f + (j - f) = j by omega]
  exact Nat.mod_eq_of_lt (h2 j (by simp [hj]))
 have hf0 : (f + 0) % n = f := by rw [Nat.add_zero]; exact Nat.mod_eq_of_lt hf
 obtain ⟨l, a1, a2, a3⟩ := asc_of (A := fun j => num ((f + j) % n)) (ok := fun j => !(fun _ : Nat => false) ((f + j) % n)) (r.map (· - f)) 0 [] .one (fun j _ => rfl)
  (by
   rw [List.pairwise_cons, List.pairwise_map];refine ⟨fun j hj => ?_, hlt.2.imp_of_mem fun {a b} ha hb hab => ?_⟩
   ·obtain ⟨x, hx, rfl⟩ := List.mem_map.1 hj
    have := hlt.1 x hx;omega
   ·have := hlt.1 a ha
    omega)
  (by
   rw [List.pairwise_cons] at h3;rw [List.pairwise_cons, List.pairwise_map];refine ⟨fun j hj => ?_, h3.2.imp_of_mem fun {a b} ha hb hab => ?_⟩
   ·obtain ⟨x, hx, rfl⟩ := List.mem_map.1 hj
    show num ((f + 0) % n) < num ((f + (x - f)) % n)
    rw [hf0, key x hx];exact h3.1 x hx
   ·show num ((f + (a - f)) % n) < num ((f + (b - f)) % n)
    rw [key a ha, key b hb];exact hab)
 have hr : Round n num (fun _ => false) f l := ⟨hf, rfl, fun j hj => by
  rcases a3 j hj with h | h
  ·obtain ⟨x, hx, rfl⟩ := List.mem_map.1 h
   have := h2 x (by simp [hx])
   omega
  ·rw [List.mem_singleton.1 h]; omega, a1⟩
 have := hr.le;rw [a2, List.length_map] at this;simpa using this
end Go.Abs.Mo
set_option linter.all false
namespace Go.Abs.Mo
theorem stay_succ (n : Nat) (W : Nat → Bool) : stay (n + 1) W = stay n W ++ if W n = true then [] else [n] := by
 unfold stay;rw [List.range_succ, List.filter_append];cases h : W n <;> simp [h]
theorem stay_asc (n : Nat) (W : Nat → Bool) : (stay n W).Pairwise (· < ·) := List.Pairwise.filter _ List.pairwise_lt_range
theorem stay_lt {n : Nat} {W : Nat → Bool} {i j : Nat} (hij : i < j) (hj : j < (stay n W).length) : (stay n W).getD i 0 < (stay n W).getD j 0 := by
 have h := List.pairwise_iff_getElem.1 (stay_asc n W) i j (by omega) hj hij
 rw [List.getD_eq_getElem?_getD, List.getElem?_eq_getElem (by omega), List.getD_eq_getElem?_getD, List.getElem?_eq_getElem hj]
 exact h
theorem stay_at {n : Nat} {W : Nat → Bool} {i : Nat} (h : i < (stay n W).length) : (stay n W).getD i 0 < n ∧ W ((stay n W).getD i 0) = false := by
 rw [List.getD_eq_getElem?_getD, List.getElem?_eq_getElem h];exact mem_stay.1 (List.getElem_mem h)
theorem one_descent {n : Nat} {num : Nat → Int} {W : Nat → Bool} (h0 : 0 < keptTo n num W n) (h : keptTo n num W n = (stay n W).length) : ∃ u, ∀ i, i < (stay n W).length → i ≠ u → num ((stay n W).getD i 0) < num ((stay n W).getD ((i + 1) % (stay n W).length) 0) := by
 obtain ⟨f, hf, hw, hs⟩ := stay_round h0 h;obtain ⟨t, ht, e⟩ := List.getElem_of_mem (mem_stay.2 ⟨hf, hw⟩);have et : (stay n W).getD t 0 = f := by rw [List.getD_eq_getElem?_getD, List.getElem?_eq_getElem ht]; exact e
 have up : ∀ i j, i < j → j < (stay n W).length → (stay n W).getD i 0 < (stay n W).getD j 0 := fun i j => stay_lt
 have at' : ∀ i, i < (stay n W).length → (stay n W).getD i 0 < n ∧ W ((stay n W).getD i 0) = false := fun i => stay_at
 have hi1 : ∀ x, x < n → f ≤ x → (f + (x - f)) % n = x := fun x hx hfx => by rw [show f + (x - f) = x by omega, Nat.mod_eq_of_lt hx]
 have hi2 : ∀ x, x < n → x < f → (f + (x + n - f)) % n = x := fun x hx hfx => by rw [show f + (x + n - f) = x + n by omega, Nat.add_mod_right, Nat.mod_eq_of_lt hx]
 clear e;obtain ⟨g, hg⟩ : ∃ g : Nat → Nat, ∀ i, (stay n W).getD i 0 = g i := ⟨_, fun _ => rfl⟩
 simp only [hg] at et up at' ⊢;generalize hm : (stay n W).length = m at *;refine ⟨if t = 0 then m - 1 else t - 1, fun i hi hu => ?_⟩
 by_cases c : i + 1 < m
 ·rw [Nat.mod_eq_of_lt c]
  have a1 := up i (i + 1) (by omega) c
  have a2 := at' i hi;have a3 := at' (i + 1) c;by_cases c2 : i + 1 < t
  ·have a4 := up (i + 1) t c2 ht
   exact hs _ _ a2.1 a3.1 a2.2 a3.2 (g i + n - f) (g (i + 1) + n - f) (by omega) (by omega) (hi2 _ a2.1 (by omega)) (hi2 _ a3.1 (by omega))
  ·have c3 : t ≤ i := by
    by_cases c4 : t = 0
    ·omega
    ·rw [if_neg c4] at hu; omega
   have a4 : f ≤ g i := by
    by_cases c5 : t = i
    ·rw [← et, c5]; omega
    ·have := up t i (by omega) hi
     omega
   exact hs _ _ a2.1 a3.1 a2.2 a3.2 (g i - f) (g (i + 1) - f) (by omega) (by omega) (hi1 _ a2.1 a4) (hi1 _ a3.1 (by omega))
 ·have e1 : i + 1 = m := by omega
  rw [e1, Nat.mod_self];have t0 : t ≠ 0 := fun e2 => by rw [if_pos e2] at hu; omega
  have a1 := up 0 t (by omega) ht
  have a2 := at' i hi;have a3 := at' 0 (by omega)
  have a4 : f ≤ g i := by
   by_cases c5 : t = i
   ·rw [← et, c5]; omega
   ·have := up t i (by omega) hi
    omega
  exact hs _ _ a2.1 a3.1 a2.2 a3.2 (g i - f) (g 0 + n - f) (by omega) (by omega) (hi1 _ a2.1 a4) (hi2 _ a3.1 (by omega))
end Go.Abs.Mo
