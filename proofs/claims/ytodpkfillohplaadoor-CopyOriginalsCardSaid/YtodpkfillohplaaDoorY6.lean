/-
 Chapter 12, plain law: of which sets so many copies can be made with so many changes: of those that have what all copies have, and few points more.
-/
import Derived.Test.YtodpkfillohplaaDoorX22
set_option linter.all false
namespace Go.Abs
set_option maxRecDepth 10000

def cntF (f : Nat → Bool) : Nat → Nat
 | 0 => 0
 | p + 1 => cntF f p + (f p).toNat
theorem exX_cnt (t : Bool) (jf : Nat → Bool) (x : Nat) : ∀ p, exX t jf x p = cntF (fun q => !jf q && (x.testBit q ^^ t)) p
 | 0 => rfl
 | p + 1 => by
  unfold exX cntF
  rw [exX_cnt t jf x p]
theorem gapX_cnt (jf : Nat → Bool) : ∀ p, gapX jf p = cntF (fun q => !jf q) p
 | 0 => rfl
 | p + 1 => by
  unfold gapX cntF
  rw [gapX_cnt jf p]
theorem flat_rows {hk n : Nat} {f : Nat → Bool} {a b : Nat → Nat} (h24 : hk ≤ 24) (hlt : ∀ i, i < n → subN (a i) (b i) < 2 ^ hk) (hb : ∀ i, i < n → ∀ h, h < hk → (subN (a i) (b i)).testBit h = f (i * hk + h)) : ∀ i, i ≤ n → cntF f (i * hk) = lostT a b i
 | 0, _ => by simp [cntF, lostT]
 | i + 1, hi => by
  have ih := flat_rows h24 hlt hb i (by omega)
  have inner : ∀ h, h ≤ hk → cntF f (i * hk + h) = cntF f (i * hk) + bitsN (subN (a i) (b i)) h := by
   intro h
   induction h with
   | zero => intro _; simp [bitsN]
   | succ h ihh =>
    intro hh
    have e : i * hk + (h + 1) = (i * hk + h) + 1 := by omega
    rw [e]
    conv => lhs; unfold cntF
    rw [ihh (by omega), bitsN_succ, hb i (by omega) h (by omega)]
    omega
  have e : (i + 1) * hk = i * hk + hk := by rw [Nat.add_mul]; omega
  have e2 : lostT a b (i + 1) = lostT a b i + bitsN (subN (a i) (b i)) 24 := rfl
  rw [e, inner hk (Nat.le_refl _), ih, e2, bitsN_top (hlt i (by omega)) h24]
/-- the points of rows, one after another -/
def jfOf (hk : Nat) (j : List Nat) (q : Nat) : Bool := (j.getD (q / hk) 0).testBit (q % hk)
theorem jfOf_at {hk : Nat} {j : List Nat} {i h : Nat} (hh : h < hk) : jfOf hk j (i * hk + h) = (j.getD i 0).testBit h := by
 unfold jfOf
 have e1 : (i * hk + h) / hk = i := by
  rw [Nat.add_comm, Nat.add_mul_div_right _ _ (by omega), Nat.div_eq_of_lt hh, Nat.zero_add]
 have e2 : (i * hk + h) % hk = h := by
  rw [Nat.add_comm, Nat.add_mul_mod_self_right, Nat.mod_eq_of_lt hh]
 rw [e1, e2]
theorem bits_split {x j s : Nat} (h1 : ∀ q, j.testBit q = true → x.testBit q = true) (h2 : ∀ q, s.testBit q = true → j.testBit q = true) : ∀ n, bitsN (subN x s) n = bitsN (subN x j) n + bitsN (subN j s) n
 | 0 => by simp [bitsN]
 | n + 1 => by
  have ih := bits_split h1 h2 n
  rw [bitsN_succ, bitsN_succ, bitsN_succ, subN_bit, subN_bit, subN_bit, ih]
  have a := h1 n
  have b := h2 n
  revert a b
  cases x.testBit n <;> cases j.testBit n <;> cases s.testBit n <;> simp <;> omega
theorem subB_iff {a b : List Nat} {n : Nat} : subB a b n = true ↔ ∀ i, i < n → ∀ q, (atR b i).testBit q = true → (atR a i).testBit q = true := by
 unfold subB
 rw [List.all_eq_true]
 constructor
 ·intro h i hi
  have := h i (List.mem_range.2 hi)
  exact subN_zero.1 (of_decide_eq_true this)
 ·intro h i hi
  exact decide_eq_true (subN_zero.2 (h i (List.mem_range.1 hi)))
theorem lost_split {x j s : List Nat} {n : Nat} (h1 : subB x j n = true) (h2 : subB j s n = true) : lostN x s n = lostN x j n + lostN j s n := by
 rw [subB_iff] at h1 h2
 unfold lostN
 have : ∀ m, m ≤ n → lostT (atR x) (atR s) m = lostT (atR x) (atR j) m + lostT (atR j) (atR s) m := by
  intro m
  induction m with
  | zero => intro _; rfl
  | succ m ih =>
   intro hm
   unfold lostT
   rw [ih (by omega), bits_split (h1 m (by omega)) (h2 m (by omega))]
   omega
 exact this n (Nat.le_refl _)
theorem join_bit {s : List (List Nat)} {n i q : Nat} (hi : i < n) : (atR (joinN s n) i).testBit q = s.any fun r => (atR r i).testBit q := by
 have e : atR (joinN s n) i = joinAt s i := by
  unfold atR joinN
  rw [List.getD_eq_getElem?_getD, List.getElem?_map, List.getElem?_range hi]
  rfl
 rw [e]
 unfold joinAt
 rw [orAll_bit, List.any_map]
 rfl
theorem sub_join {s : List (List Nat)} {n : Nat} {x : List Nat} : (∀ k, k < s.length → subB x (s.getD k []) n = true) ↔ subB x (joinN s n) n = true := by
 constructor
 ·intro h
  rw [subB_iff]
  intro i hi q hq
  rw [join_bit hi, List.any_eq_true] at hq
  obtain ⟨r, hr, hq⟩ := hq
  obtain ⟨k, hk, rfl⟩ := List.getElem_of_mem hr
  have := h k hk
  rw [subB_iff, List.getD_eq_getElem?_getD, List.getElem?_eq_getElem hk] at this
  exact this i hi q hq
 ·intro h k hk
  rw [subB_iff] at h ⊢
  intro i hi q hq
  refine h i hi q ?_
  rw [join_bit hi, List.any_eq_true]
  refine ⟨s.getD k [], ?_, hq⟩
  rw [List.getD_eq_getElem?_getD, List.getElem?_eq_getElem hk]
  exact List.getElem_mem hk
theorem join_sub {s : List (List Nat)} {n k : Nat} (hk : k < s.length) : subB (joinN s n) (s.getD k []) n = true := by
 have h : subB (joinN s n) (joinN s n) n = true := by
  rw [subB_iff]
  exact fun _ _ _ h => h
 exact sub_join.2 h k hk
theorem worst_le {s : List (List Nat)} {j : List Nat} {n c : Nat} : ∀ k, worstT s j n k ≤ c ↔ ∀ i, i < k → lostV j (s.getD i []) n ≤ c
 | 0 => by simp [worstT]
 | k + 1 => by
  unfold worstT
  rw [Nat.max_le, worst_le k]
  constructor
  ·rintro ⟨h1, h2⟩ i hi
   by_cases e : i = k
   ·subst e; exact h2
   ·exact h1 i (by omega)
  ·intro h
   exact ⟨fun i hi => h i (by omega), h k (by omega)⟩
/-- of which sets all copies can be made -/
theorem ok_good {l : List DesN} {hk n : Nat} (h : SetsOk l hk n) (t : Bool) (most : Int) (m : Nat) (hm : (m : Int) = most - (worstT (setsN t hk l) (joinN (setsN t hk l) n) n l.length : Nat)) (b : Nat) : okTo t hk n l most b l.length = goodX t (jfOf hk (joinN (setsN t hk l) n)) (hk * n) (m + 1) b := by
 obtain ⟨⟨k1, k2⟩, k3, k4⟩ := h.k1
 have hsl : (setsN t hk l).length = l.length := by simp
 have hsg := fun k (hk' : k < l.length) => setsN_get (t := t) (hk := hk) hk'
 have hjn : (joinN (setsN t hk l) n).length = n := by simp
 have hjlt : ∀ i, i < n → atR (joinN (setsN t hk l) n) i < 2 ^ hk := fun i hi => by
  unfold atR
  rw [rows_get (by omega)]
  obtain ⟨q, hq, e⟩ := List.mem_map.1 (List.getElem_mem (l := joinN (setsN t hk l) n) (n := i) (by omega))
  rw [← e]
  exact joinAt_lt (setsN_row h) (List.mem_range.1 hq)
 have hX : ∀ i, i < n → ∀ q, q < hk → (atR (turnL t hk (setD hk n b).rows) i).testBit q = (b.testBit (i * hk + q) ^^ t) := fun i hi q hq => by
  unfold atR
  rw [turnL_at _ _ _ (by simp [setD, upTo]; exact hi), setD_at hi, turnR_bit hq, setRow_bit hq]
 have hXlt : ∀ i, i < n → atR (turnL t hk (setD hk n b).rows) i < 2 ^ hk := fun i hi => by
  unfold atR
  rw [turnL_at _ _ _ (by simp [setD, upTo]; exact hi), setD_at hi]
  exact turnR_lt (setRow_lt _ _ _)
 have hsub := @sub_join (setsN t hk l) n (turnL t hk (setD hk n b).rows)
 have hjs := fun k (hk' : k < (setsN t hk l).length) => join_sub (n := n) hk'
 have hok : okTo t hk n l most b l.length = true ↔ ∀ k (hk' : k < l.length), madeB t hk n (setD hk n b) l[k] = true ∧ ((madeN t hk n (setD hk n b) l[k] : Nat) : Int) ≤ most := by
  unfold okTo
  rw [List.take_length, List.all_eq_true]
  constructor
  ·intro hh k hk'
   have := hh _ (List.getElem_mem hk')
   rw [Bool.and_eq_true, decide_eq_true_eq] at this
   exact this
  ·intro hh d hd
   obtain ⟨k, hk', rfl⟩ := List.getElem_of_mem hd
   rw [Bool.and_eq_true, decide_eq_true_eq]
   exact hh k hk'
 have hmb : ∀ k (hk' : k < l.length), madeB t hk n (setD hk n b) l[k] = subB (turnL t hk (setD hk n b).rows) ((setsN t hk l).getD k []) n := fun k hk' => by
  unfold madeB; rw [hsg k hk']
 have hmn : ∀ k (hk' : k < l.length), madeN t hk n (setD hk n b) l[k] = if madeB t hk n (setD hk n b) l[k] = true then lostN (turnL t hk (setD hk n b).rows) ((setsN t hk l).getD k []) n else 0 := fun k hk' => by
  unfold madeN; rw [hsg k hk']
 generalize turnL t hk (setD hk n b).rows = X at *
 have hwl := fun c => @worst_le (setsN t hk l) (joinN (setsN t hk l) n) n c l.length
 generalize setsN t hk l = s at *
 generalize joinN s n = j at *
 have hall : (∀ k (hk' : k < l.length), madeB t hk n (setD hk n b) l[k] = true) ↔ subB X j n = true := by
  rw [← hsub]
  constructor
  ·intro hh k hk'
   rw [← hmb k (by omega)]
   exact hh k (by omega)
  ·intro hh k hk'
   rw [hmb k hk']
   exact hh k (by omega)
 have hXJ : subB X j n = true ↔ okX t (jfOf hk j) b (hk * n) = true := by
  rw [okX_iff, subB_iff]
  constructor
  ·intro hh q hq hjf
   have hq1 : q / hk < n := by
    rw [Nat.div_lt_iff_lt_mul (by omega), Nat.mul_comm]; exact hq
   have hq2 : q % hk < hk := Nat.mod_lt _ (by omega)
   have := hh (q / hk) hq1 (q % hk) hjf
   rw [hX _ hq1 _ hq2] at this
   rw [show q / hk * hk + q % hk = q by rw [Nat.mul_comm]; exact Nat.div_add_mod q hk] at this
   exact this
  ·intro hh i hi q hq
   by_cases hqk : q < hk
   ·rw [hX i hi q hqk]
    refine hh (i * hk + q) ?_ ?_
    ·have : (i + 1) * hk ≤ n * hk := Nat.mul_le_mul_right hk (by omega)
     rw [Nat.add_mul, Nat.mul_comm n hk] at this
     omega
    ·rw [jfOf_at hqk]; exact hq
   ·rw [Nat.testBit_lt_two_pow (Nat.lt_of_lt_of_le (hjlt i hi) (Nat.pow_le_pow_right (by omega) (by omega)))] at hq
    cases hq
 have hex : subB X j n = true → exX t (jfOf hk j) b (hk * n) = lostN X j n := fun hs => by
  rw [exX_cnt, Nat.mul_comm]
  unfold lostN
  refine flat_rows k2 (fun i hi => subN_lt (hXlt i hi)) (fun i hi q hq => ?_) n (Nat.le_refl _)
  rw [subN_bit, hX i hi q hq, jfOf_at hq, Bool.and_comm]
  rfl
 have key : okTo t hk n l most b l.length = true ↔ goodX t (jfOf hk j) (hk * n) (m + 1) b = true := by
  rw [hok]
  unfold goodX
  rw [Bool.and_eq_true, decide_eq_true_eq, ← hXJ]
  have hv : ∀ k, k < l.length → lostV j (s.getD k []) n = lostN j (s.getD k []) n := fun k hk' => by
   unfold lostV
   rw [if_pos (hjs k (by omega))]
  constructor
  ·intro hh
   have hs : subB X j n = true := hall.1 fun k hk' => (hh k hk').1
   refine ⟨hs, ?_⟩
   rw [hex hs]
   have h0 := h.l1
   have hc : ((lostN X j n : Nat) : Int) ≤ most := by
    have a := (hh 0 (by omega)).2
    rw [hmn 0 (by omega), if_pos (hh 0 (by omega)).1, lost_split hs (hjs 0 (by omega))] at a
    omega
   have hw : worstT s j n l.length ≤ (most - (lostN X j n : Nat)).toNat := by
    rw [hwl]
    intro k hk'
    have a := (hh k hk').2
    rw [hmn k hk', if_pos (hh k hk').1, lost_split hs (hjs k (by omega))] at a
    rw [hv k hk']
    omega
   omega
  ·rintro ⟨hs, hx⟩ k hk'
   rw [hex hs] at hx
   have h1 := hall.2 hs k hk'
   refine ⟨h1, ?_⟩
   rw [hmn k hk', if_pos h1, lost_split hs (hjs k (by omega))]
   have hw := (hwl (worstT s j n l.length)).1 (Nat.le_refl _) k hk'
   rw [hv k hk'] at hw
   omega
 cases h1 : okTo t hk n l most b l.length <;> cases h2 : goodX t (jfOf hk j) (hk * n) (m + 1) b
 ·rfl
 ·rw [h1, h2] at key; simp at key
 ·rw [h1, h2] at key; simp at key
 ·rfl
theorem gaps_flat {hk n : Nat} {j : List Nat} (h24 : hk ≤ 24) : gapX (jfOf hk j) (hk * n) = gapsL hk n j := by
 rw [gapX_cnt, Nat.mul_comm]
 unfold gapsL lostN
 refine flat_rows h24 (fun i hi => subN_lt ?_) (fun i hi q hq => ?_) n (Nat.le_refl _)
 ·unfold atR
  rw [fullN_at hk n i hi]
  have : 0 < 2 ^ hk := Nat.pow_pos (by omega)
  omega
 ·rw [subN_bit, jfOf_at hq]
  unfold atR
  rw [fullN_at hk n i hi, Nat.testBit_two_pow_sub_one, decide_eq_true hq, Bool.true_and]
theorem exX_none {t : Bool} {jf : Nat → Bool} {x : Nat} : ∀ {p : Nat}, exX t jf x p = 0 → ∀ q, q < p → jf q = false → (x.testBit q ^^ t) = false
 | 0, _, q, hq, _ => by omega
 | p + 1, h, q, hq, hj => by
  rw [exX_succ] at h
  by_cases e : q = p
  ·subst e
   have h2 : (!jf q && (x.testBit q ^^ t)).toNat = 0 := by omega
   rw [hj] at h2
   cases hb : (x.testBit q ^^ t)
   ·rfl
   ·rw [hb] at h2; cases h2
  ·exact exX_none (p := p) (by omega) q (by omega) hj
theorem goods_all {t : Bool} {jf : Nat → Bool} {p m q : Nat} (hq : q < p) : (∀ x ∈ goodL (goodX t jf p (m + 1)) (2 ^ p), (x.testBit q ^^ t) = true) ↔ jf q = true := by
 constructor
 ·intro h
  have hx : numX t jf p none ∈ goodL (goodX t jf p (m + 1)) (2 ^ p) := List.mem_filter.2 ⟨List.mem_range.2 (numX_lt _ _ _ _), numX_good t jf p m none (.inl rfl)⟩
  have := h _ hx
  rw [numX_bit t jf p none hq] at this
  simpa using this
 ·intro hj x hx
  have := (List.mem_filter.1 hx).2
  unfold goodX at this
  rw [Bool.and_eq_true] at this
  exact okX_iff.1 this.1 q hq hj
theorem goods_some {t : Bool} {jf : Nat → Bool} {p m q : Nat} (hq : q < p) : (∃ x ∈ goodL (goodX t jf p (m + 1)) (2 ^ p), (x.testBit q ^^ t) = true) ↔ (jf q = true ∨ 0 < m) := by
 constructor
 ·rintro ⟨x, hx, hb⟩
  have := (List.mem_filter.1 hx).2
  unfold goodX at this
  rw [Bool.and_eq_true, decide_eq_true_eq] at this
  rcases Nat.eq_zero_or_pos m with h0 | h0
  ·left
   cases hj : jf q
   ·have := exX_none (t := t) (show exX t jf x p = 0 by omega) q hq hj
    rw [hb] at this; cases this
   ·rfl
  ·exact .inr h0
 ·intro h
  by_cases h0 : 0 < m
  ·refine ⟨numX t jf p (some q), List.mem_filter.2 ⟨List.mem_range.2 (numX_lt _ _ _ _), numX_good t jf p m _ (.inr h0)⟩, ?_⟩
   rw [numX_bit t jf p _ hq]
   simp
  ·refine ⟨numX t jf p none, List.mem_filter.2 ⟨List.mem_range.2 (numX_lt _ _ _ _), numX_good t jf p m _ (.inl rfl)⟩, ?_⟩
   rw [numX_bit t jf p _ hq]
   rcases h with h | h
   ·rw [h]; rfl
   ·exact absurd h h0
theorem goods_ne (t : Bool) (jf : Nat → Bool) (p m : Nat) : goodL (goodX t jf p (m + 1)) (2 ^ p) ≠ [] := by
 intro h
 have hx : numX t jf p none ∈ goodL (goodX t jf p (m + 1)) (2 ^ p) := List.mem_filter.2 ⟨List.mem_range.2 (numX_lt _ _ _ _), numX_good t jf p m none (.inl rfl)⟩
 rw [h] at hx
 cases hx
theorem lt_flat {hk n i h : Nat} (hi : i < n) (hh : h < hk) : i * hk + h < hk * n := by
 have : (i + 1) * hk ≤ n * hk := Nat.mul_le_mul_right hk (by omega)
 rw [Nat.add_mul, Nat.mul_comm n hk] at this
 omega
theorem hiJ_bit {hk n m : Nat} {j : List Nat} {i h : Nat} (hi : i < n) (hh : h < hk) : ((hiJ hk n m j).getD i 0).testBit h = ((j.getD i 0).testBit h || decide (0 < m)) := by
 unfold hiJ
 by_cases h0 : 0 < m
 ·rw [if_pos h0, fullN_at hk n i hi, Nat.testBit_two_pow_sub_one]
  simp [hh, h0]
 ·rw [if_neg h0]
  simp [h0]
theorem lists_eq {f : Nat → Nat} {n : Nat} {L : List Nat} (hL : L.length = n) (h : ∀ i, i < n → f i = L.getD i 0) : upTo f n = L := by
 apply List.ext_getElem?
 intro i
 by_cases hi : i < n
 ·have e : (upTo f n)[i]? = some (f i) := by simp [upTo, hi]
  rw [e, h i hi, List.getD_eq_getElem?_getD, List.getElem?_eq_getElem (by omega)]
  rfl
 ·rw [List.getElem?_eq_none (by simp [upTo]; omega), List.getElem?_eq_none (by omega)]
theorem sure_eq (t : Bool) {hk n : Nat} (m : Nat) (j : List Nat) (hjn : j.length = n) (hjlt : ∀ x ∈ j, x < 2 ^ hk) : sureG hk n (goodL (goodX t (jfOf hk j) (hk * n) (m + 1)) (2 ^ (hk * n))) = sureN t hk n m j ∧ canG hk n (goodL (goodX t (jfOf hk j) (hk * n) (m + 1)) (2 ^ (hk * n))) = canN t hk n m j := by
 have hne := goods_ne t (jfOf hk j) (hk * n) m
 have hA := fun q (hq : q < hk * n) => @goods_all t (jfOf hk j) (hk * n) m q hq
 have hB := fun q (hq : q < hk * n) => @goods_some t (jfOf hk j) (hk * n) m q hq
 generalize goodL (goodX t (jfOf hk j) (hk * n) (m + 1)) (2 ^ (hk * n)) = G at *
 have e1 : sureG hk n G = upTo (fun i => andA (G.map fun x => setRow hk x i)) n := if_neg hne
 have e2 : canG hk n G = upTo (fun i => orAll (G.map fun x => setRow hk x i)) n := if_neg hne
 have hhl : (hiJ hk n m j).length = n := hiJ_len hjn
 have hhlt := hiJ_lt (n := n) (m := m) hjlt
 have hrow : ∀ (L : List Nat), L.length = n → (∀ x ∈ L, x < 2 ^ hk) → ∀ i, i < n → (turnL t hk L).getD i 0 < 2 ^ hk ∧ ∀ h, h < hk → ((turnL t hk L).getD i 0).testBit h = ((L.getD i 0).testBit h ^^ t) := by
  intro L hL hlt i hi
  rw [turnL_at _ _ _ (by omega)]
  refine ⟨turnR_lt ?_, fun h hh => turnR_bit hh⟩
  rw [rows_get (by omega)]
  exact hlt _ (List.getElem_mem _)
 have hgt : ∀ {x h : Nat}, x < 2 ^ hk → hk ≤ h → x.testBit h = false := fun hx hh => Nat.testBit_lt_two_pow (Nat.lt_of_lt_of_le hx (Nat.pow_le_pow_right (by omega) hh))
 rw [e1, e2]
 constructor
 ·unfold sureN
  refine lists_eq (by cases t <;> simp [hjn, hhl]) fun i hi => ?_
  apply Nat.eq_of_testBit_eq
  intro h
  by_cases hh : h < hk
  ·rw [andA_bit (by simpa using hne), List.all_map]
   have eb : (G.all ((fun x => x.testBit h) ∘ fun x => setRow hk x i)) = G.all fun x => x.testBit (i * hk + h) := by
    congr 1
    funext x
    exact setRow_bit hh
   rw [eb]
   have ja := hA _ (lt_flat hi hh)
   have jb := hB _ (lt_flat hi hh)
   rw [jfOf_at hh] at ja jb
   cases t
   ·rw [if_neg (by simp), (hrow j hjn hjlt i hi).2 h hh, Bool.xor_false]
    simp only [Bool.xor_false] at ja
    cases hj : (j.getD i 0).testBit h
    ·rw [List.all_eq_false]
     rw [hj] at ja
     apply Classical.byContradiction
     intro hc
     have := ja.1 fun x hx => Classical.byContradiction fun hx2 => hc ⟨x, hx, hx2⟩
     cases this
    ·rw [List.all_eq_true]
     exact ja.2 hj
   ·rw [if_pos rfl, (hrow _ hhl hhlt i hi).2 h hh, hiJ_bit hi hh, Bool.xor_true]
    simp only [Bool.xor_true] at jb
    by_cases hc : (j.getD i 0).testBit h = true ∨ 0 < m
    ·obtain ⟨x, hx, hb⟩ := jb.2 hc
     have e : ((j.getD i 0).testBit h || decide (0 < m)) = true := by simpa using hc
     rw [e, Bool.not_true, List.all_eq_false]
     exact ⟨x, hx, by simpa using hb⟩
    ·have e : ((j.getD i 0).testBit h || decide (0 < m)) = false := by
      cases hj : (j.getD i 0).testBit h
      ·rw [Bool.false_or]
       exact decide_eq_false fun h0 => hc (.inr h0)
      ·exact absurd (.inl hj) hc
     rw [e, Bool.not_false, List.all_eq_true]
     intro x hx
     apply Classical.byContradiction
     intro hb
     exact hc (jb.1 ⟨x, hx, by simpa using hb⟩)
  ·rw [hgt (andA_lt fun r hr => by
    obtain ⟨x, _, rfl⟩ := List.mem_map.1 hr
    exact setRow_lt _ _ _) (by omega)]
   rw [hgt (by cases t <;> first | exact (hrow _ hjn hjlt i hi).1 | exact (hrow _ hhl hhlt i hi).1) (by omega)]
 ·unfold canN
  refine lists_eq (by cases t <;> simp [hjn, hhl]) fun i hi => ?_
  apply Nat.eq_of_testBit_eq
  intro h
  by_cases hh : h < hk
  ·rw [orAll_bit, List.any_map]
   have eb : (G.any ((fun r => r.testBit h) ∘ fun x => setRow hk x i)) = G.any fun x => x.testBit (i * hk + h) := by
    congr 1
    funext x
    exact setRow_bit hh
   rw [eb]
   have ja := hA _ (lt_flat hi hh)
   have jb := hB _ (lt_flat hi hh)
   rw [jfOf_at hh] at ja jb
   cases t
   ·rw [if_neg (by simp), (hrow _ hhl hhlt i hi).2 h hh, Bool.xor_false, hiJ_bit hi hh]
    simp only [Bool.xor_false] at jb
    by_cases hc : (j.getD i 0).testBit h = true ∨ 0 < m
    ·have e : ((j.getD i 0).testBit h || decide (0 < m)) = true := by simpa using hc
     rw [e, List.any_eq_true]
     exact jb.2 hc
    ·have e : ((j.getD i 0).testBit h || decide (0 < m)) = false := by
      cases hj : (j.getD i 0).testBit h
      ·rw [Bool.false_or]
       exact decide_eq_false fun h0 => hc (.inr h0)
      ·exact absurd (.inl hj) hc
     rw [e, List.any_eq_false]
     intro x hx hb
     exact hc (jb.1 ⟨x, hx, hb⟩)
   ·rw [if_pos rfl, (hrow j hjn hjlt i hi).2 h hh, Bool.xor_true]
    simp only [Bool.xor_true] at ja
    cases hj : (j.getD i 0).testBit h
    ·rw [Bool.not_false, List.any_eq_true]
     rw [hj] at ja
     apply Classical.byContradiction
     intro hc
     have := ja.1 fun x hx => by
      cases hb : x.testBit (i * hk + h)
      ·rfl
      ·exact absurd ⟨x, hx, hb⟩ hc
     cases this
    ·rw [Bool.not_true, List.any_eq_false]
     intro x hx
     have := ja.2 hj x hx
     simpa using this
  ·rw [hgt (orAll_lt fun r hr => by
    obtain ⟨x, _, rfl⟩ := List.mem_map.1 hr
    exact setRow_lt _ _ _) (by omega)]
   rw [hgt (by cases t <;> first | exact (hrow _ hjn hjlt i hi).1 | exact (hrow _ hhl hhlt i hi).1) (by omega)]
end Go.Abs
