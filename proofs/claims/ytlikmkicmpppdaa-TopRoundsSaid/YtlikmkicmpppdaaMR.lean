/-
 Round after round: what repeats a design, from any pick on, has the same least repeat and the same longest floats: plain Lean, no program in sight.
-/
import Derived.Test.YtlikmkicmpppdaaM7
set_option linter.all false
namespace Go.Abs
set_option maxRecDepth 10000
theorem same_gen {l l' : List Bool} (hl : 0 < l.length) (hl' : 0 < l'.length) (hf : ∀ i n, LenIs l i n → begs l i = true → ∃ j, LenIs l' j n ∧ gb l' j = gb l i ∧ begs l' j = true) (he : (∀ i, gb l i = gb l 0) → ∀ i, gb l' i = gb l 0) : SameRuns l l' := by
 intro x hx;rcases runsT_mem.1 hx with ⟨i, hi, hb, rfl⟩ | ⟨ha, rfl⟩
 ·obtain ⟨j, h1, h2, h3⟩ := hf i _ (lenT_is hb) hb
  have h4 := h1.mod;have hb' : begs l' (j % l'.length) = true := by rw [begs_mod]; exact h3
  refine ⟨runAt l' (j % l'.length), runsT_mem.2 (.inl ⟨_, Nat.mod_lt _ hl', hb', rfl⟩), ?_, ?_⟩
  ·unfold runAt; dsimp only; rw [gb_mod]; exact h2
  ·unfold runAt; dsimp only
   exact (lenT_is hb').eq h4
 ·have h := he ((endless_iff hl).1 ha)
  have h' : anyTo l' l'.length = false := (endless_iff hl').2 fun i => by rw [h i, h 0]
  exact ⟨⟨0, 1000, gb l' 0⟩, runsT_mem.2 (.inr ⟨h', rfl⟩), h 0, rfl⟩
structure Times (l l' : List Bool) (s r : Nat) : Prop where
 pos : 0 < l.length
 r1 : 1 ≤ r
 len : l'.length = l.length * r
 at' : ∀ i, gb l' i = gb l (i + s)
theorem Times.pos' {l l' : List Bool} {s r : Nat} (h : Times l l' s r) : 0 < l'.length := by
 rw [h.len]; exact Nat.mul_pos h.pos (by have := h.r1; omega)
theorem Times.last {l l' : List Bool} {s r : Nat} (h : Times l l' s r) (i : Nat) : gb l' (i + l'.length - 1) = gb l (i + s + l.length - 1) := by
 have h1 := h.pos;have h2 := h.r1;have h3 : l.length * r = l.length * (r - 1) + l.length := by
  conv => lhs; rw [show r = r - 1 + 1 by omega]
  exact Nat.mul_succ _ _
 rw [h.at', h.len, show i + l.length * r - 1 + s = i + s + l.length - 1 + l.length * (r - 1) by omega, gb_mul]
theorem Times.to {l l' : List Bool} {s r : Nat} (h : Times l l' s r) : SameRuns l l' := by
 have h1 := h.pos;refine same_gen h1 h.pos' (fun i n hL hb => ?_) fun he i => by rw [h.at', he]
 have hs : s ≤ l.length * s := Nat.le_mul_of_pos_left s h1;have hle : l.length ≤ l'.length := by rw [h.len]; exact Nat.le_mul_of_pos_right _ h.r1
 have key : ∀ k, gb l' (i + l.length * s - s + k) = gb l (i + k) := fun k => by
  rw [h.at', show i + l.length * s - s + k + s = i + k + l.length * s by omega, gb_mul]
 have key0 : gb l' (i + l.length * s - s) = gb l i := by
  have := key 0;simpa using this
 refine ⟨i + l.length * s - s, ⟨hL.pos, by have := hL.lt; omega, fun k hk => ?_, ?_⟩, key0, ?_⟩
 ·rw [key k, key0]; exact hL.same k hk
 ·rw [key n, key0]; exact hL.other
 ·unfold begs at *
  rw [key0, h.last, show i + l.length * s - s + s + l.length - 1 = i + l.length - 1 + l.length * s by omega, gb_mul]
  exact hb
theorem Times.back {l l' : List Bool} {s r : Nat} (h : Times l l' s r) : SameRuns l' l := by
 have h1 := h.pos;refine same_gen h.pos' h1 (fun i n hL hb => ?_) fun he i => ?_
 ·have key : ∀ k, gb l (i + s + k) = gb l' (i + k) := fun k => by rw [h.at']; congr 1; omega
  have key0 : gb l (i + s) = gb l' i := by
   have := key 0;simpa using this
  have hb2 : gb l' i ≠ gb l (i + s + l.length - 1) := by
   rw [← h.last];simpa [begs] using hb
  refine ⟨i + s, ⟨hL.pos, ?_, fun k hk => ?_, ?_⟩, key0, ?_⟩
  ·apply Classical.byContradiction
   intro hn;have h2 := hL.same (l.length - 1) (by omega)
   rw [← key] at h2;exact hb2 (by rw [show i + s + l.length - 1 = i + s + (l.length - 1) by omega, h2])
  ·rw [key, key0]; exact hL.same k hk
  ·rw [key, key0]; exact hL.other
  ·unfold begs
   rw [key0];simpa using hb2
 ·have hs : s ≤ l.length * s := Nat.le_mul_of_pos_left s h1
  have h2 := h.at' (i + l.length * s - s);rw [show i + l.length * s - s + s = i + l.length * s by omega, gb_mul] at h2
  rw [← h2, he]
theorem pr_mul {α : Type} {f : Nat → α} {k : Nat} (h : ∀ i, f (i + k) = f i) (m i : Nat) : f (i + k * m) = f i := by
 induction m with
 | zero => rfl
 | succ m ih => rw [Nat.mul_succ, ← Nat.add_assoc, h, ih]
theorem pr_mod {α : Type} {f : Nat → α} {k : Nat} (h : ∀ i, f (i + k) = f i) (i : Nat) : f (i % k) = f i := by
 have := pr_mul h (i / k) (i % k);rw [Nat.mod_add_div] at this;exact this.symm
theorem pr_gcd {α : Type} {f : Nat → α} (a b : Nat) : (∀ i, f (i + a) = f i) → (∀ i, f (i + b) = f i) → ∀ i, f (i + Nat.gcd a b) = f i := by
 induction a, b using Nat.gcd.induction with
 | H0 b => intro _ hb i; rw [Nat.gcd_zero_left]; exact hb i
 | H1 a b ha0 ih =>
  intro ha hb;rw [Nat.gcd_rec];refine ih (fun i => ?_) ha
  have h1 := pr_mul ha (b / a) (i + b % a);rw [Nat.add_assoc, Nat.mod_add_div, hb] at h1;exact h1.symm
theorem wh_iff {R : Nat → List Bool} {n k : Nat} (h0 : 0 < n) (hk : 1 ≤ k) (hn : n % k = 0) : wholeR R n k = true ↔ ∀ i, (fun i => R (i % n)) (i + k) = (fun i => R (i % n)) i := by
 rw [wholeR_iff];constructor
 ·intro h i
  try dsimp only
  have h1 := h ((i + k) % n) (Nat.mod_lt _ h0);have h2 := h (i % n) (Nat.mod_lt _ h0);rw [h1, h2];rw [Nat.mod_mod_of_dvd _ (Nat.dvd_of_mod_eq_zero hn), Nat.mod_mod_of_dvd _ (Nat.dvd_of_mod_eq_zero hn), Nat.add_mod_right]
 ·intro h i hi
  have h1 := pr_mod (f := fun i => R (i % n)) h i
  try dsimp only at h1
  have h2 : i % k < n := by have := Nat.mod_le i k; omega
  rw [Nat.mod_eq_of_lt h2, Nat.mod_eq_of_lt hi] at h1;exact h1.symm
theorem pT_is {n : Nat} {P : Nat → Bool} (h1 : 1 ≤ n) (hP : P n = true) : perAt n P (perT n P) = true ∧ ∀ k, k < perT n P → perAt n P k = false := by
 unfold perT;cases hf : (List.range n).find? (perAt n P) with
 | none =>
  rw [List.find?_eq_none] at hf;refine ⟨?_, fun k hk => ?_⟩
  ·unfold perAt
   simp [hP, h1]
  ·have := hf k (List.mem_range.2 hk)
   simpa using this
 | some m =>
  have h2 := List.find?_some hf;rw [List.find?_eq_some_iff_getElem] at hf;obtain ⟨_, i, hi, he, hj⟩ := hf;simp only [List.getElem_range] at he;subst he;refine ⟨h2, fun k hk => ?_⟩
  have := hj k hk;simpa using this
theorem perT_times {R R' : Nat → List Bool} {n r f : Nat} (h1 : 1 ≤ n) (hr : 1 ≤ r) (hR : ∀ i, i < n * r → R' i = R ((f + i) % n)) : perT (n * r) (wholeR R' (n * r)) = perT n (wholeR R n) := by
 have hnr : 0 < n * r := Nat.mul_pos (by omega) (by omega)
 obtain ⟨a1, a2⟩ := pT_is (n := n) (P := wholeR R n) h1 (whole_self R n);obtain ⟨b1, b2⟩ := pT_is (n := n * r) (P := wholeR R' (n * r)) (by omega) (whole_self R' (n * r))
 generalize perT n (wholeR R n) = p at *;generalize perT (n * r) (wholeR R' (n * r)) = q at *;have hf : ∀ i, (fun i => R' (i % (n * r))) i = (fun i => R (i % n)) (i + f) := by
  intro i;dsimp only;rw [hR _ (Nat.mod_lt _ hnr)]
  congr 1
  rw [Nat.add_comm, Nat.add_mod, Nat.mod_mod_of_dvd _ (Nat.dvd_mul_right n r), ← Nat.add_mod]
 have hn : ∀ i, (fun i => R (i % n)) (i + n) = (fun i => R (i % n)) i := fun i => by
  dsimp only;rw [Nat.add_mod_right]
 have hsh : ∀ k, (∀ i, (fun i => R' (i % (n * r))) (i + k) = (fun i => R' (i % (n * r))) i) ↔ ∀ i, (fun i => R (i % n)) (i + k) = (fun i => R (i % n)) i := by
  intro k;constructor
  ·intro h i
   have hs : f ≤ n * f := Nat.le_mul_of_pos_left f (by omega)
   have h2 := h (i + n * f - f);rw [hf, hf, show i + n * f - f + k + f = i + k + n * f by omega, show i + n * f - f + f = i + n * f by omega] at h2
   have e1 := pr_mul (f := fun i => R (i % n)) (k := n) hn f (i + k)
   have e2 := pr_mul (f := fun i => R (i % n)) (k := n) hn f i
   exact e1.symm.trans (Eq.trans h2 e2)
  ·intro h i
   rw [hf, hf, show i + k + f = i + f + k by omega]
   exact h _
 unfold perAt at a1 b1;simp only [Bool.and_eq_true, decide_eq_true_eq] at a1 b1;obtain ⟨⟨p1, p2⟩, p3⟩ := a1;obtain ⟨⟨q1, q2⟩, q3⟩ := b1;rw [wh_iff (by omega) p1 p2] at p3
 rw [wh_iff hnr q1 q2, hsh] at q3;have hpd := Nat.dvd_of_mod_eq_zero p2;have hpd2 : n * r % p = 0 := Nat.mod_eq_zero_of_dvd (Nat.dvd_trans hpd (Nat.dvd_mul_right n r));have hqp : q ≤ p := Nat.le_of_not_lt fun hlt => by
  have := b2 p hlt;unfold perAt at this;have h3 : wholeR R' (n * r) p = true := by rw [wh_iff hnr p1 hpd2, hsh]; exact p3
  rw [decide_eq_true p1, decide_eq_true hpd2, h3] at this;cases this
 have hg := pr_gcd (f := fun i => R (i % n)) q n q3 hn
 have g1 : 1 ≤ Nat.gcd q n := Nat.gcd_pos_of_pos_right _ h1;have g2 : n % Nat.gcd q n = 0 := Nat.mod_eq_zero_of_dvd (Nat.gcd_dvd_right q n);have hgq : Nat.gcd q n ≤ q := Nat.le_of_dvd q1 (Nat.gcd_dvd_left q n);rw [← wh_iff (by omega) g1 g2] at hg
 have hpg : p ≤ Nat.gcd q n := Nat.le_of_not_lt fun hlt => by
  have := a2 _ hlt;unfold perAt at this;rw [decide_eq_true g1, decide_eq_true g2, hg] at this;cases this
 omega
def roundsN (d : DesN) (f r : Nat) : DesN := ⟨d.hk, (List.range (d.rows.length * r)).map fun i => d.rows.getD ((f + i) % d.rows.length) 0⟩
theorem rounds_len (d : DesN) (f r : Nat) : (roundsN d f r).rows.length = d.rows.length * r := by simp [roundsN]
theorem rounds_row (d : DesN) (f r : Nat) {i : Nat} (h : i < d.rows.length * r) : (roundsN d f r).rows.getD i 0 = d.rows.getD ((f + i) % d.rows.length) 0 := by
 unfold roundsN;dsimp only;rw [List.getD_eq_getElem?_getD, List.getElem?_map, List.getElem?_range h]; rfl
theorem rounds_ok {d : DesN} (hd : d.Ok) (f r : Nat) (hr : 1 ≤ r) (h60 : d.rows.length * r ≤ 60) : (roundsN d f r).Ok where
 h1 := hd.h1
 h24 := hd.h24
 r1 := by rw [rounds_len]; exact Nat.mul_pos hd.r1 hr
 r60 := by rw [rounds_len]; exact h60
 lt := fun x hx => by
  obtain ⟨i, _, rfl⟩ := List.mem_map.1 hx;have hm := Nat.mod_lt (f + i) (show 0 < d.rows.length from hd.r1)
  rw [rows_get hm];exact hd.lt _ (List.getElem_mem hm)
theorem rounds_pick (d : DesN) (f r : Nat) {i : Nat} (h : i < d.rows.length * r) : pickR (roundsN d f r) i = pickR d ((f + i) % d.rows.length) := by
 unfold pickR;rw [rounds_row d f r h]; rfl
theorem rounds_hook {d : DesN} (hd : d.Ok) {f r : Nat} (hr : 1 ≤ r) (h60 : d.rows.length * r ≤ 60) {h : Nat} (hh : h < d.hk) : Times (hookR d h) (hookR (roundsN d f r) h) f r where
 pos := by rw [hookR_len]; exact hd.r1
 r1 := hr
 len := by rw [hookR_len, hookR_len, rounds_len]
 at' := fun i => by
  have hn : 0 < d.rows.length := hd.r1;have hnr : 0 < d.rows.length * r := Nat.mul_pos hn hr;rw [atN_hook (rounds_ok hd f r hr h60) hh, atN_hook hd hh];unfold atN;rw [rounds_len, rounds_row d f r (Nat.mod_lt _ hnr)]
  congr 2
  rw [Nat.add_comm, Nat.add_mod, Nat.mod_mod_of_dvd _ (Nat.dvd_mul_right _ r), ← Nat.add_mod]
theorem rounds_like {d : DesN} (hd : d.Ok) {f r : Nat} (hr : 1 ≤ r) (h60 : d.rows.length * r ≤ 60) : LikeD d (roundsN d f r) := by
 have hn : 0 < d.rows.length := hd.r1;have hle : d.rows.length ≤ d.rows.length * r := Nat.le_mul_of_pos_right _ hr;refine ⟨hd, rounds_ok hd f r hr h60, fun i hi => ?_, fun i hi => ?_, fun i hi => ⟨i, hi, (rounds_hook hd hr h60 hi).to⟩, fun i hi => ⟨i, hi, (rounds_hook hd hr h60 hi).back⟩⟩
 ·have hm := Nat.mod_lt f hn
  have hj := Nat.mod_lt (i + d.rows.length - f % d.rows.length) hn;refine ⟨(i + d.rows.length - f % d.rows.length) % d.rows.length, by rw [rounds_len]; omega, ?_⟩
  rw [rounds_pick d f r (by omega)]
  have e : (f + (i + d.rows.length - f % d.rows.length) % d.rows.length) % d.rows.length = i := by
   rw [Nat.add_mod_mod];have h2 := Nat.mod_add_div f d.rows.length;rw [show f + (i + d.rows.length - f % d.rows.length) = i + d.rows.length + d.rows.length * (f / d.rows.length) by omega, Nat.add_mul_mod_self_left, Nat.add_mod_right, Nat.mod_eq_of_lt hi]
  rw [e];exact same_refl _
 ·rw [rounds_len] at hi
  exact ⟨(f + i) % d.rows.length, Nat.mod_lt _ hn, by rw [rounds_pick d f r hi]; exact same_refl _⟩
theorem rounds_leastP {d : DesN} (hd : d.Ok) {f r : Nat} (hr : 1 ≤ r) (h60 : d.rows.length * r ≤ 60) : leastP (roundsN d f r) = leastP d := by
 rw [leastP_eq hd, leastP_eq (rounds_ok hd f r hr h60), rounds_len];exact perT_times hd.r1 hr fun i hi => rounds_pick d f r hi
theorem rounds_leastH {d : DesN} (hd : d.Ok) {f r : Nat} (hr : 1 ≤ r) (h60 : d.rows.length * r ≤ 60) : leastH (roundsN d f r) = leastH d := by
 rw [leastH_eq hd, leastH_eq (rounds_ok hd f r hr h60)];have hn : 0 < d.rows.length := hd.r1;have ex : ∀ {l l' : List Bool}, l.length = l'.length → 0 < l.length → (l = l' ↔ ∀ i, gb l i = gb l' i) := by
  intro l l' hl h0;constructor
  ·rintro rfl _; rfl
  ·intro h
   apply List.ext_getElem hl;intro i h1 h2;have := h i;unfold gb at this;rw [Nat.mod_eq_of_lt h1, Nat.mod_eq_of_lt h2, List.getD_eq_getElem?_getD, List.getD_eq_getElem?_getD, List.getElem?_eq_getElem h1, List.getElem?_eq_getElem h2] at this;exact this
 have key : ∀ i j, i < d.hk → j < d.hk → (hookR (roundsN d f r) i = hookR (roundsN d f r) j ↔ hookR d i = hookR d j) := by
  intro i j hi hj;have ti := rounds_hook hd (f := f) hr h60 hi;have tj := rounds_hook hd (f := f) hr h60 hj;rw [ex (by rw [hookR_len, hookR_len]) ti.pos', ex (by rw [hookR_len, hookR_len]) ti.pos]
  constructor
  ·intro h p
   have hs : f ≤ (hookR d i).length * f := Nat.le_mul_of_pos_left f ti.pos;have h2 := h (p + (hookR d i).length * f - f);rw [ti.at', tj.at', show p + (hookR d i).length * f - f + f = p + (hookR d i).length * f by omega, gb_mul, show (hookR d i).length = (hookR d j).length by rw [hookR_len, hookR_len], gb_mul] at h2
   exact h2
  ·intro h p
   rw [ti.at', tj.at'];exact h _
 refine perT_congr fun k h1 h2 _ => ?_
 rw [Bool.eq_iff_iff, wholeR_iff, wholeR_iff];have hk : ∀ i, i < d.hk → (hookR (roundsN d f r) i = hookR (roundsN d f r) (i % k) ↔ hookR d i = hookR d (i % k)) := fun i hi => key i _ hi (by have := Nat.mod_le i k; omega)
 exact ⟨fun h i hi => (hk i hi).1 (h i hi), fun h i hi => (hk i hi).2 (h i hi)⟩
end Go.Abs
