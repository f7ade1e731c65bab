/-
 Several texts: Y16, LEnough.
-/
import Derived.Test.YtodpkfillohplaaDoorY15
import Derived.Test.YtodpkfillohplaaDoorX14
import Derived.Test.YtodpkfillohplaaDoorLLike
set_option linter.all false
namespace Go.Abs
set_option maxRecDepth 10000
theorem joinB_bit {t : Bool} {hk n : Nat} {l : List DesN} {q j : Nat} (hq : q < n) : (atR (joinN (setsN t hk l) n) q).testBit j = l.any fun d => (atR (turnL t hk d.rows) q).testBit j := by
 have ea : atR (joinN (setsN t hk l) n) q = joinAt (setsN t hk l) q := by
  unfold atR joinN;rw [rows_get (by simpa using hq)]; simp
 rw [ea];unfold joinAt setsN;rw [orAll_bit, List.any_map, List.any_map]; rfl
theorem join_mono {l l' : List DesN} (t : Bool) (hk n : Nat) (h : ∀ d ∈ l', d ∈ l) : inB (joinN (setsN t hk l') n) (joinN (setsN t hk l) n) n := by
 intro q hq j hj;rw [joinB_bit hq] at hj ⊢;obtain ⟨d, hd, hb⟩ := List.any_eq_true.1 hj;exact List.any_eq_true.2 ⟨d, h d hd, hb⟩
theorem rows_ext {a b : List Nat} {n : Nat} (ha : a.length = n) (hb : b.length = n) (h1 : inB a b n) (h2 : inB b a n) : a = b := by
 refine List.ext_getElem (by omega) fun i g1 g2 => ?_
 apply Nat.eq_of_testBit_eq;intro j;have e1 := h1 i (by omega) j
 have e2 := h2 i (by omega) j
 unfold atR at e1 e2;rw [rows_get g1, rows_get g2] at e1 e2;cases ha : a[i].testBit j <;> cases hb : b[i].testBit j <;> simp_all
theorem diffTo_comm (a b : DesN) : ∀ i, diffTo a b i = diffTo b a i
 | 0 => rfl
 | i + 1 => by
  unfold diffTo;rw [diffTo_comm a b i, Nat.xor_comm]
theorem diffN_comm {a b : DesN} (h : a.rows.length = b.rows.length) : diffN a b = diffN b a := by
 unfold diffN;rw [h]; exact diffTo_comm a b _
theorem lostT_refl (a : Nat → Nat) : ∀ n, lostT a a n = 0
 | 0 => rfl
 | n + 1 => by
  have h := lostT_refl a n;have e : subN (a n) (a n) = 0 := subN_zero.2 fun _ h => h
  unfold lostT;rw [e, h];simp [bitsN]
theorem lostT_anti {a b b' : Nat → Nat} : ∀ {n : Nat}, (∀ q, q < n → ∀ j, (b' q).testBit j = true → (b q).testBit j = true) → lostT a b n ≤ lostT a b' n
 | 0, _ => Nat.le_refl _
 | n + 1, h => by
  have h1 := lostT_anti (a := a) (n := n) fun q hq => h q (by omega)
  have h2 := bits_mono (x := subN (a n) (b n)) (y := subN (a n) (b' n)) (fun j hj => by
   rw [subN_bit] at hj ⊢;simp only [Bool.and_eq_true, Bool.not_eq_true'] at hj ⊢;refine ⟨hj.1, ?_⟩;cases e : (b' n).testBit j with
   | false => rfl
   | true => rw [h n (by omega) j e] at hj; exact hj.2) 24
  unfold lostT;omega
section
variable {l l' : List DesN} {hk n : Nat}
theorem join_lt (h : SetsOk l hk n) (t : Bool) : ∀ q, q < n → atR (joinN (setsN t hk l) n) q < 2 ^ 24 := fun q hq => by
 have hr := setsN_row (t := t) h;have ea : atR (joinN (setsN t hk l) n) q = joinAt (setsN t hk l) q := by
  unfold atR joinN;rw [rows_get (by simpa using hq)]; simp
 rw [ea];exact up24 (joinAt_lt hr hq) h.k1.1.2
theorem diff_firsts (h : SetsOk l hk n) (h' : SetsOk l' hk n) (t : Bool) (hs : ∀ d ∈ l', d ∈ l) : diffN (firstN t hk n l') (firstN t hk n l) = lostN (joinN (setsN t hk l) n) (joinN (setsN t hk l') n) n := by
 have r1 : (firstN t hk n l').rows.length = n := by simp [firstN]
 have r2 : (firstN t hk n l).rows.length = n := by simp [firstN]
 rw [diffN_comm (by rw [r1, r2])]
 have e1 : turnL t hk (firstN t hk n l).rows = joinN (setsN t hk l) n := turnL_back _ _ _;have e2 : turnL t hk (firstN t hk n l').rows = joinN (setsN t hk l') n := turnL_back _ _ _;have := diff_lost (first_set h t) (first_set h' t) (hk := hk) rfl rfl r2 r1 t (by rw [e1, e2]; exact join_mono t hk n hs)
 rw [e1, e2] at this;exact this
theorem diff_none (h : SetsOk l hk n) (h' : SetsOk l' hk n) (t : Bool) (hs : ∀ d ∈ l', d ∈ l) : diffN (firstN t hk n l') (firstN t hk n l) = 0 ↔ joinN (setsN t hk l') n = joinN (setsN t hk l) n := by
 rw [diff_firsts h h' t hs];constructor
 ·intro e
  exact rows_ext (joinN_len _ _) (joinN_len _ _) (join_mono t hk n hs) (lost_zero (join_lt h t) e)
 ·intro e
  rw [e];exact lostT_refl _ _
theorem needed_spec (h : SetsOk l hk n) (t : Bool) : ∃ nd : List Nat, Asc nd ∧ (∀ k ∈ nd, k < l.length) ∧ 1 ≤ nd.length ∧ nd.length ≤ l.length ∧ isN (setsN t hk l) n nd = true ∧ (∀ y, Asc y → 1 ≤ y.length → (∀ k ∈ y, k < l.length) → isN (setsN t hk l) n y = true → lessL y nd = false) ∧ lim F 27 [iv (wayOf t), .list 2 (l.map setV)] = some (.tuple [.list 1 (natsV nd), iv 0], []) := by
 have hl1 := h.l1;have hall : isN (setsN t hk l) n (List.range l.length) = true := by
  have := isN_all (setsN t hk l) n;simpa using this
 obtain ⟨M, hM, i0, hi0, h1, h2, h3⟩ := needed_ex (setsN t hk l) n l.length hl1 hall;have hN := Needed_ok h t M hM i0 hi0 h1 h2 h3;have he := needed_eq (setsN t hk l) n l.length hl1 hall M i0 hi0 h1 h2 h3;rw [← he] at hN;obtain ⟨b1, b2, b3⟩ := bestR_ok (setsN t hk l) n l.length hall (2 ^ l.length - 1);have hp := Nat.two_pow_pos l.length;refine ⟨_, b1, b2, bestR_pos _ _ _ hl1 _ (by omega), bestR_len _ _ _ _, b3, fun y y1 y2 y3 y4 => ?_, hN⟩
 obtain ⟨b, hb, hbe⟩ := setL_of y1 y3;have hb0 : b ≠ 0 := by
  rintro rfl;have e : setL l.length 0 = [] := by simp [setL]
  rw [e] at hbe;rw [← hbe] at y2;cases y2
 rw [← hbe];exact bestR_min _ _ _ _ b (by omega) (by omega) (by rw [hbe]; exact y4)
end
def maskL (x : List Nat) : Nat := x.foldl (fun a k => a ||| 2 ^ k) 0
theorem maskL_snoc (x : List Nat) (k : Nat) : maskL (x ++ [k]) = maskL x ||| 2 ^ k := by simp [maskL, List.foldl_append]
theorem foldl_bit (i : Nat) : ∀ (x : List Nat) (a : Nat), (x.foldl (fun a k => a ||| 2 ^ k) a).testBit i = (a.testBit i || decide (i ∈ x))
 | [], a => by simp
 | k :: x, a => by
  rw [List.foldl_cons, foldl_bit i x, Nat.testBit_or, Nat.testBit_two_pow];by_cases e : k = i
  ·subst e; simp
  ·have e2 : ¬ i = k := fun h => e h.symm
   simp [e, e2]
theorem maskL_bit (x : List Nat) (i : Nat) : (maskL x).testBit i = decide (i ∈ x) := by
 unfold maskL;rw [foldl_bit]; simp
theorem maskL_lt {x : List Nat} (h : ∀ k ∈ x, k < 8) : maskL x < 256 := by
 have : maskL x < 2 ^ 8 := by
  apply Nat.lt_pow_two_of_testBit;intro i hi;rw [maskL_bit];exact decide_eq_false fun hm => by have := h i hm; omega
 simpa using this
theorem lex_mask : ∀ {x y : List Nat} {p : Nat}, Asc x → Asc y → x.length = y.length → p ∈ x → p ∉ y → (∀ i, i < p → (i ∈ x ↔ i ∈ y)) → lexL x y = true
 | [], _, _, _, _, _, h, _, _ => by cases h
 | a :: x, [], _, _, _, h, _, _, _ => by cases h
 | a :: x, b :: y, p, hx, hy, hl, h1, h2, h3 => by
  obtain ⟨x1, x2⟩ := List.pairwise_cons.1 hx;obtain ⟨y1, y2⟩ := List.pairwise_cons.1 hy;unfold lexL;by_cases e : a = b
  ·rw [if_pos e]
   subst e;have hpa : p ≠ a := fun e => h2 (by rw [e]; exact List.mem_cons_self ..)
   have hpx : p ∈ x := by
    rcases List.mem_cons.1 h1 with e | e
    ·exact absurd e hpa
    ·exact e
   refine lex_mask x2 y2 (by simpa using hl) hpx (fun h => h2 (List.mem_cons_of_mem _ h)) fun i hi => ?_
   have := h3 i hi;constructor
   ·intro hm
    rcases List.mem_cons.1 (this.1 (List.mem_cons_of_mem _ hm)) with e | e
    ·subst e; exact absurd (x1 _ hm) (by omega)
    ·exact e
   ·intro hm
    rcases List.mem_cons.1 (this.2 (List.mem_cons_of_mem _ hm)) with e | e
    ·subst e; exact absurd (y1 _ hm) (by omega)
    ·exact e
  ·rw [if_neg e]
   refine decide_eq_true ?_;rcases Nat.lt_or_ge a b with g | g
   ·exact g
   ·have hpa : a ≤ p := by
     rcases List.mem_cons.1 h1 with e | e
     ·omega
     ·have := x1 p e; omega
    have hb : b ∈ a :: x := (h3 b (by omega)).2 (List.mem_cons_self ..)
    rcases List.mem_cons.1 hb with e' | e'
    ·exact absurd e'.symm e
    ·have := x1 b e'; omega
theorem low_bit : ∀ z : Fin 256, z.1 ≠ 0 → ∃ p : Fin 8, IntKind.wrap .i64 ((BitVec.ofInt (IntKind.bits .i64) (z.1 : Int) &&& BitVec.ofInt (IntKind.bits .i64) (0 - (z.1 : Int))).toNat : Int) = ((2 ^ p.1 : Nat) : Int) ∧ z.1.testBit p.1 = true ∧ ∀ i : Fin 8, i.1 < p.1 → z.1.testBit i.1 = false := by decide +kernel
theorem u8_bit : ∀ (b : Fin 256) (k : Fin 8), IntKind.wrap .u8 ((BitVec.ofInt (IntKind.bits .u8) (Int.fdiv (b.1 : Int) (2 ^ min k.1 (IntKind.bits .u8))) &&& BitVec.ofInt (IntKind.bits .u8) 1).toNat : Int) = if b.1.testBit k.1 then 1 else 0 := by decide +kernel
theorem wayT_up : ∀ p k, wayT p k ≤ wayT (p + 1) k
 | p, 0 => by rw [wayT_zero, wayT_zero]; omega
 | p, k + 1 => by
  have h := wayT_le p (k + 1);have e : wayT (p + 1) (k + 1) = min capK (wayT p (k + 1) + wayT p k) := rfl;rw [e]; omega
theorem wayT_mono {p q : Nat} (h : p ≤ q) (k : Nat) : wayT p k ≤ wayT q k := by
 induction q with
 | zero =>
  obtain rfl : p = 0 := by omega
  exact Nat.le_refl _
 | succ q ih =>
  by_cases e : p = q + 1
  ·subst e; exact Nat.le_refl _
  ·exact Nat.le_trans (ih (by omega)) (wayT_up q k)
theorem sumW_mono {p q k m : Nat} (h : p ≤ q) (hk : k ≤ m) : sumW p k ≤ sumW q m := by
 have h1 : ∀ k, sumW p k ≤ sumW q k := fun k => by
  induction k with
  | zero => exact Nat.le_refl _
  | succ k ih =>
   have := wayT_mono h k;unfold sumW;omega
 have h2 : ∀ d, sumW q k ≤ sumW q (k + d) := fun d => by
  induction d with
  | zero => exact Nat.le_refl _
  | succ d ih =>
   have hc := sumW_le q (k + d);have e : sumW q (k + (d + 1)) = min capK (sumW q (k + d) + wayT q (k + d)) := rfl;rw [e]; omega
 have := h1 k;have := h2 (m - k);rw [show k + (m - k) = m by omega] at this
 omega
end Go.Abs
set_option linter.all false
namespace Go.Abs
set_option maxRecDepth 10000
set_option maxHeartbeats 8000000
theorem some_ok {x : PressB} {l : List DesN} (hS : SetsOk l (origN x).hk (origN x).rows.length) (hl8 : l.length ≤ 8) (y : List Nat) (hy : ∀ k ∈ y, k < l.length) (h1 : 1 ≤ y.length) (h8 : y.length ≤ 8) : SetsOk (subD l y) (origN x).hk (origN x).rows.length :=
 hS.sub h1 (by omega) hy
theorem most_le (x : PressB) {K : Nat} : ∀ m, m ≤ K → worstS (setsO x K) (joinO x K) (origN x).rows.length m ≤ worstS (setsO x (K + 1)) (joinO x (K + 1)) (origN x).rows.length m
 | 0, _ => Nat.le_refl _
 | m + 1, h => by
  have h1 := most_le x (K := K) m (by omega)
  have hl := (madeTo_len x K).1;have g := List.getElem?_eq_getElem (show m < (madeTo x K).l.length by omega)
  have g' := g;rw [madeTo_pre x (show K ≤ K + 1 by omega) (show m < K by omega)] at g'
  obtain ⟨a1, _, _, a4⟩ := diff_most x (show m < K by omega) _ g
  obtain ⟨b1, _, _, b4⟩ := diff_most x (show m < K + 1 by omega) _ g'
  have hs : inB (joinO x K) (joinO x (K + 1)) (origN x).rows.length := join_mono _ _ _ fun d hd => by
   show d ∈ (madeTo x K).l ++ _
   exact List.mem_append_left _ hd
  have := lostS_split a1 hs;unfold worstS;rw [a4, b4, lostV_in a1, lostV_in b1, this];omega
theorem fewer_count (x : PressB) {K : Nat} (h1 : 1 ≤ K) (h7 : K + 1 ≤ 8) : ∃ c1 e1 c2 e2 : Int, lim F 32 [iv (wayOf (wayB x)), .list 2 ((madeTo x K).l.map setV), iv (((madeTo x (K + 1)).most : Nat) : Int)] = some (.tuple [iv c1, iv e1], []) ∧ lim F 32 [iv (wayOf (wayB x)), .list 2 ((madeTo x (K + 1)).l.map setV), iv (((madeTo x (K + 1)).most : Nat) : Int)] = some (.tuple [iv c2, iv e2], []) ∧ (e1 = 8 ∨ e1 = 0 ∧ e2 = 0 ∧ ¬ c1 < c2) := by
 have hS1 := madeTo_sets x h1 (show K ≤ 10 by omega)
 have hS2 := madeTo_sets x (show 1 ≤ K + 1 by omega) (show K + 1 ≤ 10 by omega)
 have l1 := (madeTo_len x K).1;have l2 := (madeTo_len x (K + 1)).1;have m1 := moreS (setsO x K) (joinO x K) (origN x).rows.length (((madeTo x (K + 1)).most : Nat) : Int) K;have m2 := moreS (setsO x (K + 1)) (joinO x (K + 1)) (origN x).rows.length (((madeTo x (K + 1)).most : Nat) : Int) (K + 1);have hms := most_split x (N := K + 1) (K + 1) (by omega) (Nat.le_refl _)
 have h144 := madeTo_most x (K + 1);have w1 := most_le x (K := K) K (Nat.le_refl _);have w2 : worstS (setsO x (K + 1)) (joinO x (K + 1)) (origN x).rows.length K ≤ worstS (setsO x (K + 1)) (joinO x (K + 1)) (origN x).rows.length (K + 1) := Nat.le_max_left _ _;have hs : inB (joinO x K) (joinO x (K + 1)) (origN x).rows.length := join_mono _ _ _ fun d hd => by
  show d ∈ (madeTo x K).l ++ _
  exact List.mem_append_left _ hd
 have hg : gapsL (origN x).hk (origN x).rows.length (joinO x (K + 1)) ≤ gapsL (origN x).hk (origN x).rows.length (joinO x K) := lostT_anti fun q hq j hj => hs q hq j hj
 obtain ⟨r1, hr1⟩ : ∃ r, r = (madeTo x (K + 1)).most - worstS (setsO x K) (joinO x K) (origN x).rows.length K := ⟨_, rfl⟩;obtain ⟨r2, hr2⟩ : ∃ r, r = (madeTo x (K + 1)).most - worstS (setsO x (K + 1)) (joinO x (K + 1)) (origN x).rows.length (K + 1) := ⟨_, rfl⟩;have c1 := Count_ok hS1 (wayB x) (((madeTo x (K + 1)).most : Nat) : Int) r1 (by omega) (by omega) (by rw [l1]; refine Eq.trans m1 ?_; omega) (by omega)
 have c2 := Count_ok hS2 (wayB x) (((madeTo x (K + 1)).most : Nat) : Int) r2 (by omega) (by omega) (by rw [l2]; refine Eq.trans m2 ?_; omega) (by omega)
 have hle := sumW_mono hg (show r2 + 1 ≤ r1 + 1 by omega)
 have hcap := sumW_le (gapsL (origN x).hk (origN x).rows.length (joinO x K)) (r1 + 1);unfold joinO setsO at hle hcap;by_cases e1 : sumW (gapsL (origN x).hk (origN x).rows.length (joinN (setsN (wayB x) (origN x).hk (madeTo x K).l) (origN x).rows.length)) (r1 + 1) = capK
 ·rw [if_pos e1] at c1
  by_cases e2 : sumW (gapsL (origN x).hk (origN x).rows.length (joinN (setsN (wayB x) (origN x).hk (madeTo x (K + 1)).l) (origN x).rows.length)) (r2 + 1) = capK
  ·rw [if_pos e2] at c2
   exact ⟨_, _, _, _, c1, c2, Or.inl rfl⟩
  ·rw [if_neg e2] at c2
   exact ⟨_, _, _, _, c1, c2, Or.inl rfl⟩
 ·rw [if_neg e1] at c1
  rw [if_neg (by omega)] at c2
  exact ⟨_, _, _, _, c1, c2, Or.inr ⟨rfl, rfl, by omega⟩⟩
theorem fewer_diff (x : PressB) {K : Nat} (h1 : 1 ≤ K) (h7 : K + 1 ≤ 8) : ¬ diffN (firstN (wayB x) (origN x).hk (origN x).rows.length (madeTo x K).l) (origN x) < diffN (firstN (wayB x) (origN x).hk (origN x).rows.length (madeTo x (K + 1)).l) (origN x) := by
 have key : ∀ N, 1 ≤ N → N ≤ 10 → diffN (firstN (wayB x) (origN x).hk (origN x).rows.length (madeTo x N).l) (origN x) = lostN (rowsO x) (joinO x N) (origN x).rows.length := fun N g1 g2 => by
  have lf := first_like x (madeTo_sets x g1 g2);have ejf : turnL (wayB x) (origN x).hk (firstN (wayB x) (origN x).hk (origN x).rows.length (madeTo x N).l).rows = joinO x N := turnL_back _ _ _;rw [diffN_comm (by rw [lf.rows]), diff_lost (orig_ok x) lf.ok rfl lf.hk rfl lf.rows (wayB x) (by rw [ejf]; exact joinO_in x), ejf]; rfl
 rw [key K h1 (by omega), key (K + 1) (by omega) (by omega)]
 have hs : inB (joinO x K) (joinO x (K + 1)) (origN x).rows.length := join_mono _ _ _ fun d hd => by
  show d ∈ (madeTo x K).l ++ _
  exact List.mem_append_left _ hd
 have : lostN (rowsO x) (joinO x (K + 1)) (origN x).rows.length ≤ lostN (rowsO x) (joinO x K) (origN x).rows.length := lostT_anti fun q hq j hj => hs q hq j hj
 omega
theorem enough_main (kn : lim F 14 [] = some (.bool true, [])) (x : PressB) (tries : List ByteB) : lim F 10 [x.av, .list 1 (tries.map fun n => .int .u8 (n.1 : Int))] = some (.bool true, []) := by
 obtain ⟨N, hN⟩ : ∃ N, N = manyC x := ⟨_, rfl⟩;have hN1 : 1 ≤ N ∧ N ≤ 8 := by rw [hN]; unfold manyC; omega
 have hW := way_ok x;have hM := made_ok x;have hP := original_ok x;rw [← hN] at hM;have hS := madeTo_sets x hN1.1 (show N ≤ 10 by omega)
 have hO := ownS_ok hS;have hF := First_ok hS (wayB x);have hlen := (madeTo_len x N).1;have lo := like_self x;have lf := first_like x hS;have hsz := sized_like lf lo;obtain ⟨nd, d1, d2, d3, d4, d5, d6, hD⟩ := needed_spec hS (wayB x);rw [hlen] at d2 d4 d6;have hn6 := orig_rows x;have hat : ∀ i (h : i < (madeTo x N).l.length), ((madeTo x N).l.map setV)[i]? = some (.agg [iv ((origN x).hk : Int), .list 1 (natsV (madeTo x N).l[i].rows)]) := fun i h => by
  rw [setV_at h, like_agg (madeTo_like x N _ (List.getElem_mem h))]
 have hndat : ∀ i, i < nd.length → (natsV nd)[i]? = some (iv ((nd.getD i 0 : Nat) : Int)) := fun i h => nats_at h
 have hndl : (natsV nd).length = nd.length := by simp
 have hndt : (natsV nd).take nd.length = natsV nd := List.take_of_length_le (by simp)
 have hndp := nats_plain nd;have hfe := tvN_fe (madeTo x N).l;have hLl : ((madeTo x N).l.map setV).length = N := by simp [hlen]
 have hTl : ((madeTo x N).l.map tvN).length = N := by simp [hlen]
 have hFl : (natsV (firstN (wayB x) (origN x).hk (origN x).rows.length (madeTo x N).l).rows).length = (origN x).rows.length := by simp [firstN]
 have hFp := nats_plain (firstN (wayB x) (origN x).hk (origN x).rows.length (madeTo x N).l).rows;have hOl : (natsV (origN x).rows).length = (origN x).rows.length := by simp
 have hOp := nats_plain (origN x).rows;have hmm := madeTo_most x N;have tFR : (natsV (firstN (wayB x) (origN x).hk (origN x).rows.length (madeTo x N).l).rows).take (origN x).rows.length = natsV (firstN (wayB x) (origN x).hk (origN x).rows.length (madeTo x N).l).rows := List.take_of_length_le (by omega)
 have tOR : (natsV (origN x).rows).take (origN x).rows.length = natsV (origN x).rows := List.take_of_length_le (by omega)
 have tAA : ((madeTo x N).l.map setV).take N = (madeTo x N).l.map setV := List.take_of_length_le (by omega)
 have hd0 : ¬ nd.length = 0 := by omega
 have hd4 : ¬ (N : Int) < nd.length := by omega
 have hsub : ∀ y : List Nat, (∀ k ∈ y, k < N) → 1 ≤ y.length → y.length ≤ 8 → lim F 15 [.list 2 ((subD (madeTo x N).l y).map setV)] = some (.ownT 2 ((subD (madeTo x N).l y).map tvN), []) ∧ ((subD (madeTo x N).l y).map tvN).map AV.tabFe = (subD (madeTo x N).l y).map setV ∧
   lim F 17 [iv (wayOf (wayB x)), .list 2 ((subD (madeTo x N).l y).map setV)] = some (.tuple [.agg [iv ((origN x).hk : Int), .own 1 (natsV (firstN (wayB x) (origN x).hk (origN x).rows.length (subD (madeTo x N).l y)).rows)], iv 0], []) ∧
   lim F 51 [.agg [iv ((origN x).hk : Int), .list 1 (natsV (firstN (wayB x) (origN x).hk (origN x).rows.length (subD (madeTo x N).l y)).rows)], .agg [iv ((origN x).hk : Int), .list 1 (natsV (origN x).rows)]] = some (.bool true, []) ∧
   lim F 52 [.agg [iv ((origN x).hk : Int), .list 1 (natsV (firstN (wayB x) (origN x).hk (origN x).rows.length (subD (madeTo x N).l y)).rows)], .agg [iv ((origN x).hk : Int), .list 1 (natsV (firstN (wayB x) (origN x).hk (origN x).rows.length (madeTo x N).l).rows)]] = some (iv ((diffN (firstN (wayB x) (origN x).hk (origN x).rows.length (subD (madeTo x N).l y)) (firstN (wayB x) (origN x).hk (origN x).rows.length (madeTo x N).l) : Nat) : Int), []) ∧
   ((subD (madeTo x N).l y).map setV).length = y.length ∧ ((subD (madeTo x N).l y).map tvN).length = y.length ∧ (natsV (firstN (wayB x) (origN x).hk (origN x).rows.length (subD (madeTo x N).l y)).rows).length = (origN x).rows.length ∧
   (diffN (firstN (wayB x) (origN x).hk (origN x).rows.length (subD (madeTo x N).l y)) (firstN (wayB x) (origN x).hk (origN x).rows.length (madeTo x N).l) = 0 ↔ isN (setsN (wayB x) (origN x).hk (madeTo x N).l) (origN x).rows.length y = true) := fun y hy y1 y8 => by
  have hS' := some_ok hS (by omega) y (by rw [hlen]; exact hy) y1 y8
  have lf' : LikeO x (firstN (wayB x) (origN x).hk (origN x).rows.length (subD (madeTo x N).l y)) := ⟨first_set hS' _, rfl, by simp [firstN]⟩
  refine ⟨ownS_ok hS', tvN_fe _, First_ok hS' _, sized_like lf' lo, differ_like lf' lf, by simp, by simp, by simp [firstN], ?_⟩
  rw [diff_none hS hS' (wayB x) (fun d hd => subD_mem (by rw [hlen]; exact hy) d hd)]
  unfold isN;rw [setsN_sub _ _ (by rw [hlen]; exact hy)]
  simp
 unfold PressB.av at *;generalize hTR : (tries.map fun n => AV.int .u8 (n.1 : Int)) = TR
 refine lim_by (fn := a10) (k := 2) (res := [.tmp 4]) rfl rfl rfl (by simp -implicitDefEqProofs (maxSteps := 2000000) (disch := first | exact tt_rfl rfl | omega | (simp only [go_sem] <;> omega) | fail) only [go_sem]) ?_
 try delta mvA
 try delta opA
 try delta tA
 simp -implicitDefEqProofs (maxSteps := 2000000) (disch := first | exact tt_rfl rfl | omega | (simp only [go_sem] <;> omega) | fail) only [go_sem]
 repeat (first | apply Wp.seqA | apply Wp.skipS | apply Wp.blockS | ((first | apply Wp.regS | apply Wp.condV | apply Wp.reg | apply Wp.condW | apply fin_ret); simp -implicitDefEqProofs (maxSteps := 2000000) (disch := first | exact tt_rfl rfl | omega | (simp only [go_sem] <;> omega) | fail) only [go_sem, tAA, tFR, tOR, hP, hW, hM, hO, hF, hD, hLl, hTl, hfe, hFl, hFp, hOl, hOp, hsz, hndl, hndt, hndp, hd0, hd4, Int.natCast_eq_zero, gt_iff_lt, bne_self_eq_false, ite_self] <;> try with_reducible rfl) | apply Wp.block | apply Wp.exitS | apply Wp.retS | apply Wp.exit | apply Wp.ret | apply Wp.skip)
 apply Wp.loopF nd.length (fun i => ⟨[(1, .list 1 TR), (5, .ptr 320 0 0), (6, iv (wayOf (wayB x))), (7, .slice 448 0 N), (10, iv (((madeTo x N).most : Nat) : Int)), (11, .ptr 704 0 0), (13, .list 1 (natsV nd)), (15, .slice 960 0 i), (16, iv ((maskL (nd.take i) : Nat) : Int)), (17, iv (i : Int))], [(320, .box [iv ((origN x).hk : Int), .list 1 (natsV (origN x).rows)]), (448, .arr 2 ((madeTo x N).l.map setV)), (704, .box [iv ((origN x).hk : Int), .slice 311265 0 (origN x).rows.length]), (960, .arr 2 ((subD (madeTo x N).l (nd.take i)).map setV)), (311265, .arr 1 (natsV (firstN (wayB x) (origN x).hk (origN x).rows.length (madeTo x N).l).rows))], [], 10000000⟩) (fun _ => True)
 ·simp -implicitDefEqProofs (maxSteps := 2000000) (disch := first | exact tt_rfl rfl | omega | (simp only [go_sem] <;> omega) | fail) only [go_sem, norm_eq, Ok.some]
  rfl
 ·trivial
 intro i hi _;by_cases h' : i < nd.length
 ·have hni := hndat i h'
  have hnm : nd.getD i 0 < N := by rw [rows_get h']; exact d2 _ (List.getElem_mem h')
  have hasc : ∀ j, j < i → nd.getD j 0 < nd.getD i 0 := fun j hj => by
   rw [rows_get h', rows_get (show j < nd.length by omega)]
   exact List.pairwise_iff_getElem.1 d1 j i _ _ hj
  have hst : nd.take (i + 1) = nd.take i ++ [nd.getD i 0] := by
   rw [List.take_succ, List.getElem?_eq_getElem h', rows_get h']; rfl
  have hel := hat (nd.getD i 0) (by omega)
  have hdd : (subD (madeTo x N).l (nd.take (i + 1))).map setV = (subD (madeTo x N).l (nd.take i)).map setV ++ [.agg [iv ((origN x).hk : Int), .list 1 (natsV ((madeTo x N).l[nd.getD i 0]'(by omega)).rows)]] := by
   rw [hst, subD_append, List.map_append]
   congr 1
   have e : subD (madeTo x N).l [nd.getD i 0] = [(madeTo x N).l[nd.getD i 0]'(by omega)] := by
    unfold subD;rw [List.map_singleton, List.getD_eq_getElem?_getD, List.getElem?_eq_getElem (by omega)]; rfl
   rw [e, List.map_singleton, like_agg (madeTo_like x N _ (List.getElem_mem _))]
  have hln : ((subD (madeTo x N).l (nd.take i)).map setV).length = i := by simp; omega
  have hms : maskL (nd.take (i + 1)) = maskL (nd.take i) ||| 2 ^ nd.getD i 0 := by rw [hst, maskL_snoc]
  have hmb : maskL (nd.take i) < 256 := maskL_lt fun k hk => by have := d2 k (List.mem_of_mem_take hk); omega
  generalize natsV ((madeTo x N).l[nd.getD i 0]'(by omega)).rows = CI at *
  generalize hNI : nd.getD i 0 = ni at *;generalize maskL (nd.take i) = mk at *;generalize (subD (madeTo x N).l (nd.take i)).map setV = SO at *;have w1 : IntKind.wrap .u64 (ni : Int) = (ni : Int) := wrap_u64 (by omega) (by omega)
  have w2 := w_shl1 ni (by omega)
  have w3 : 2 ^ ni ≤ 2 ^ 8 := Nat.pow_le_pow_right (by omega) (by omega)
  have w4 := w_or mk (2 ^ ni) (by omega) (by omega)
  by_cases hi0 : i = 0
  ·subst hi0
   repeat (first | apply Wp.seqA | apply Wp.skipS | apply Wp.blockS | ((first | apply Wp.regS | apply Wp.condV | apply Wp.reg | apply Wp.condW | apply fin_ret); simp -implicitDefEqProofs (maxSteps := 2000000) (disch := first | exact tt_rfl rfl | omega | (simp only [go_sem] <;> omega) | fail) only [go_sem, hndl, hni, hel, hLl, hln, Int.ofNat_lt, h', show ¬ (ni : Int) < 0 by omega, show ¬ (ni : Int) ≥ (N : Int) by omega, show ¬ ((0 : Nat) : Int) > 0 by omega, w1, w2, w4, decide_true, decide_false, bne_self_eq_false, ite_self] <;> try with_reducible rfl) | apply Wp.block | apply Wp.exitS | apply Wp.retS | apply Wp.exit | apply Wp.ret | apply Wp.skip)
   apply round_next
   ·simp -implicitDefEqProofs (maxSteps := 2000000) (disch := first | exact tt_rfl rfl | omega | (simp only [go_sem] <;> omega) | fail) only [go_sem, norm_eq, Ok.some]; with_reducible rfl
   exact ⟨h', by rw [hdd, hms]; simp, trivial⟩
  ·obtain ⟨q, rfl⟩ : ∃ q, i = q + 1 := ⟨i - 1, by omega⟩
   have hq := hasc q (by omega)
   have hq2 := hndat q (by omega)
   have eq1 : (((q + 1 : Nat) : Int) - 1) = (q : Int) := by omega
   repeat (first | apply Wp.seqA | apply Wp.skipS | apply Wp.blockS | ((first | apply Wp.regS | apply Wp.condV | apply Wp.reg | apply Wp.condW | apply fin_ret); simp -implicitDefEqProofs (maxSteps := 2000000) (disch := first | exact tt_rfl rfl | omega | (simp only [go_sem] <;> omega) | fail) only [go_sem, hndl, hni, hel, hLl, hln, Int.ofNat_lt, h', eq1, hq2, show ¬ (ni : Int) < 0 by omega, show ¬ (ni : Int) ≥ (N : Int) by omega, show ((q + 1 : Nat) : Int) > 0 by omega, show ¬ (ni : Int) ≤ ((nd.getD q 0 : Nat) : Int) by omega, w1, w2, w4, decide_true, decide_false, bne_self_eq_false, ite_self] <;> try with_reducible rfl) | apply Wp.block | apply Wp.exitS | apply Wp.retS | apply Wp.exit | apply Wp.ret | apply Wp.skip)
   apply round_next
   ·simp -implicitDefEqProofs (maxSteps := 2000000) (disch := first | exact tt_rfl rfl | omega | (simp only [go_sem] <;> omega) | fail) only [go_sem, norm_eq, Ok.some]; with_reducible rfl
   exact ⟨h', by rw [hdd, hms]; simp, trivial⟩
 obtain rfl : i = nd.length := by omega
 rw [List.take_length];obtain ⟨s1, s2, s3, s4, s5, s6, s7, s8, s9⟩ := hsub nd d2 d3 (by omega)
 rw [s9.2 d5] at s5;have t7 : (natsV (firstN (wayB x) (origN x).hk (origN x).rows.length (subD (madeTo x N).l nd)).rows).take (origN x).rows.length = natsV (firstN (wayB x) (origN x).hk (origN x).rows.length (subD (madeTo x N).l nd)).rows := List.take_of_length_le (by omega)
 have t6 : ((subD (madeTo x N).l nd).map setV).take nd.length = (subD (madeTo x N).l nd).map setV := List.take_of_length_le (by omega)
 have p8 := nats_plain (firstN (wayB x) (origN x).hk (origN x).rows.length (subD (madeTo x N).l nd)).rows;repeat (first | apply Wp.seqA | apply Wp.skipS | apply Wp.blockS | ((first | apply Wp.regS | apply Wp.condV | apply Wp.reg | apply Wp.condW | apply fin_ret); simp -implicitDefEqProofs (maxSteps := 2000000) (disch := first | exact tt_rfl rfl | omega | (simp only [go_sem] <;> omega) | fail) only [go_sem, Int.lt_irrefl, hndl, s1, s2, s3, s4, s5, s6, s7, s8, t6, t7, p8, tFR, hFl, hFp, tOR, hOl, hOp, bne_self_eq_false, ite_self] <;> try with_reducible rfl) | apply Wp.block | apply Wp.exitS | apply Wp.retS | apply Wp.exit | apply Wp.ret | apply Wp.skip)
 clear s1 s2 s3 s4 s5 s6 s7 s8 s9 t6 t7 p8;apply Wp.loopF (min tries.length 10) (fun i => ⟨[(1, .list 1 TR), (5, .ptr 320 0 0), (6, iv (wayOf (wayB x))), (7, .slice 448 0 N), (10, iv (((madeTo x N).most : Nat) : Int)), (11, .ptr 704 0 0), (13, .list 1 (natsV nd)), (16, iv ((maskL nd : Nat) : Int)), (20, iv (i : Int))], [(320, .box [iv ((origN x).hk : Int), .list 1 (natsV (origN x).rows)]), (448, .arr 2 ((madeTo x N).l.map setV)), (704, .box [iv ((origN x).hk : Int), .slice 311265 0 (origN x).rows.length]), (311265, .arr 1 (natsV (firstN (wayB x) (origN x).hk (origN x).rows.length (madeTo x N).l).rows))], [], 10000000⟩) (fun _ => True)
 ·simp -implicitDefEqProofs (maxSteps := 2000000) (disch := first | exact tt_rfl rfl | omega | (simp only [go_sem] <;> omega) | fail) only [go_sem, norm_eq, Ok.some]
  rfl
 ·trivial
 intro i hi _;have hTRl : TR.length = tries.length := by rw [← hTR]; simp
 by_cases h' : i < min tries.length 10
 ·have g1 : i < tries.length := by omega
  have g2 : (i : Int) < 10 := by omega
  repeat (first | apply Wp.seqA | apply Wp.skipS | apply Wp.blockS | ((first | apply Wp.regS | apply Wp.condV | apply Wp.reg | apply Wp.condW | apply fin_ret); simp -implicitDefEqProofs (maxSteps := 2000000) (disch := first | exact tt_rfl rfl | omega | (simp only [go_sem] <;> omega) | fail) only [go_sem, hTRl, Int.ofNat_lt, g1, g2, decide_true] <;> try with_reducible rfl) | apply Wp.block | apply Wp.exitS | apply Wp.retS | apply Wp.exit | apply Wp.ret | apply Wp.skip)
  obtain ⟨b, hb⟩ : ∃ b, b = tries[i] := ⟨_, rfl⟩;have hbi : TR[i]? = some (.int .u8 (b.1 : Int)) := by rw [← hTR, List.getElem?_map, List.getElem?_eq_getElem g1, hb]; rfl
  apply Wp.loopF N (fun k => ⟨[(1, .list 1 TR), (5, .ptr 320 0 0), (6, iv (wayOf (wayB x))), (7, .slice 448 0 N), (10, iv (((madeTo x N).most : Nat) : Int)), (11, .ptr 704 0 0), (13, .list 1 (natsV nd)), (16, iv ((maskL nd : Nat) : Int)), (20, iv (i : Int)), (21, .slice 1344 0 (setL k b.1).length), (22, iv ((maskL (setL k b.1) : Nat) : Int)), (23, iv (k : Int))], [(320, .box [iv ((origN x).hk : Int), .list 1 (natsV (origN x).rows)]), (448, .arr 2 ((madeTo x N).l.map setV)), (704, .box [iv ((origN x).hk : Int), .slice 311265 0 (origN x).rows.length]), (1344, .arr 2 ((subD (madeTo x N).l (setL k b.1)).map setV)), (311265, .arr 1 (natsV (firstN (wayB x) (origN x).hk (origN x).rows.length (madeTo x N).l).rows))], [], 10000000⟩) (fun k => (setL k b.1).length ≤ nd.length)
  ·simp -implicitDefEqProofs (maxSteps := 2000000) (disch := first | exact tt_rfl rfl | omega | (simp only [go_sem] <;> omega) | fail) only [go_sem, norm_eq, Ok.some]
   rfl
  ·simp [setL]
  intro k hk hkp;have hsk : ∀ j ∈ setL k b.1, j < N := fun j hj => by have := setL_lt hj; omega
  have hsl : ((subD (madeTo x N).l (setL k b.1)).map setV).length = (setL k b.1).length := by simp
  have hms : maskL (setL k b.1) < 256 := maskL_lt fun j hj => by have := hsk j hj; omega
  have hmn : maskL nd < 256 := maskL_lt fun j hj => by have := d2 j hj; omega
  by_cases hc : k < N ∧ (setL k b.1).length < nd.length
  ·obtain ⟨c1, c2⟩ := hc
   have hss := setL_succ k b.1;have hel := hat k (by omega)
   have hu := u8_bit b ⟨k, by omega⟩
   have w1 : IntKind.wrap .u64 (k : Int) = (k : Int) := wrap_u64 (by omega) (by omega)
   have w2 := w_shl1 k (by omega)
   have w3 : 2 ^ k ≤ 2 ^ 8 := Nat.pow_le_pow_right (by omega) (by omega)
   have w4 := w_or (maskL (setL k b.1)) (2 ^ k) (by omega) (by omega)
   simp only at hu;by_cases hbk : b.1.testBit k = true
   ·rw [if_pos hbk] at hss hu
    have hdd : (subD (madeTo x N).l (setL (k + 1) b.1)).map setV = (subD (madeTo x N).l (setL k b.1)).map setV ++ [.agg [iv ((origN x).hk : Int), .list 1 (natsV ((madeTo x N).l[k]'(by omega)).rows)]] := by
     rw [hss, subD_append, List.map_append]
     congr 1
     have e : subD (madeTo x N).l [k] = [(madeTo x N).l[k]'(by omega)] := by
      unfold subD;rw [List.map_singleton, List.getD_eq_getElem?_getD, List.getElem?_eq_getElem (by omega)]; rfl
     rw [e, List.map_singleton, like_agg (madeTo_like x N _ (List.getElem_mem _))]
    have hmm2 : maskL (setL (k + 1) b.1) = maskL (setL k b.1) ||| 2 ^ k := by rw [hss, maskL_snoc]
    have hll : (setL (k + 1) b.1).length = (setL k b.1).length + 1 := by rw [hss]; simp
    repeat (first | apply Wp.seqA | apply Wp.skipS | apply Wp.blockS | ((first | apply Wp.regS | apply Wp.condV | apply Wp.reg | apply Wp.condW | apply fin_ret); simp -implicitDefEqProofs (maxSteps := 2000000) (disch := first | exact tt_rfl rfl | omega | (simp only [go_sem] <;> omega) | fail) only [go_sem, hLl, hndl, hTRl, Int.ofNat_lt, g1, c1, c2, hbi, hu, hel, hsl, w1, w2, w4, decide_true, bne_self_eq_false] <;> try with_reducible rfl) | apply Wp.block | apply Wp.exitS | apply Wp.retS | apply Wp.exit | apply Wp.ret | apply Wp.skip)
    apply round_next
    ·simp -implicitDefEqProofs (maxSteps := 2000000) (disch := first | exact tt_rfl rfl | omega | (simp only [go_sem] <;> omega) | fail) only [go_sem, norm_eq, Ok.some]; with_reducible rfl
    exact ⟨c1, by rw [hdd, hmm2, hll]; simp, by omega⟩
   ·rw [if_neg hbk] at hss hu
    rw [List.append_nil] at hss;repeat (first | apply Wp.seqA | apply Wp.skipS | apply Wp.blockS | ((first | apply Wp.regS | apply Wp.condV | apply Wp.reg | apply Wp.condW | apply fin_ret); simp -implicitDefEqProofs (maxSteps := 2000000) (disch := first | exact tt_rfl rfl | omega | (simp only [go_sem] <;> omega) | fail) only [go_sem, hLl, hndl, hTRl, Int.ofNat_lt, g1, c1, c2, hbi, hu, w1, decide_true, decide_false, bne_self_eq_false] <;> try with_reducible rfl) | apply Wp.block | apply Wp.exitS | apply Wp.retS | apply Wp.exit | apply Wp.ret | apply Wp.skip)
    apply round_next
    ·simp -implicitDefEqProofs (maxSteps := 2000000) (disch := first | exact tt_rfl rfl | omega | (simp only [go_sem] <;> omega) | fail) only [go_sem, norm_eq, Ok.some]; with_reducible rfl
    exact ⟨c1, by rw [hss]; simp, by rw [hss]; exact hkp⟩
  obtain ⟨y, hy⟩ : ∃ y, y = setL k b.1 := ⟨_, rfl⟩;have hya : Asc y := by rw [hy]; exact setL_asc _ _
  rw [← hy] at hkp hsk hsl hms hc ⊢;clear hy;have hcase : (¬ k < N) ∨ (k < N ∧ ¬ y.length < nd.length) := by omega
  have hxl := w_xor (maskL y) (maskL nd) (by omega) (by omega)
  have hx8 : maskL y ^^^ maskL nd < 256 := Nat.xor_lt_two_pow (n := 8) hms hmn;by_cases hy0 : y.length = 0
  ·rcases hcase with c | ⟨c1, c2⟩
   ·repeat (first | apply Wp.seqA | apply Wp.skipS | apply Wp.blockS | ((first | apply Wp.regS | apply Wp.condV | apply Wp.reg | apply Wp.condW | apply fin_ret); simp -implicitDefEqProofs (maxSteps := 2000000) (disch := first | exact tt_rfl rfl | omega | (simp only [go_sem] <;> omega) | fail) only [go_sem, hLl, hndl, hTRl, Int.ofNat_lt, c, hy0, Int.natCast_eq_zero, decide_true, decide_false, bne_self_eq_false] <;> try with_reducible rfl) | apply Wp.block | apply Wp.exitS | apply Wp.retS | apply Wp.exit | apply Wp.ret | apply Wp.skip)
    apply round_next
    ·simp -implicitDefEqProofs (maxSteps := 2000000) (disch := first | exact tt_rfl rfl | omega | (simp only [go_sem] <;> omega) | fail) only [go_sem, norm_eq, Ok.some]; with_reducible rfl
    exact ⟨h', by simp, trivial⟩
   ·exfalso
    omega
  by_cases hyn : maskL y = maskL nd
  ·rcases hcase with c | ⟨c1, c2⟩
   ·repeat (first | apply Wp.seqA | apply Wp.skipS | apply Wp.blockS | ((first | apply Wp.regS | apply Wp.condV | apply Wp.reg | apply Wp.condW | apply fin_ret); simp -implicitDefEqProofs (maxSteps := 2000000) (disch := first | exact tt_rfl rfl | omega | (simp only [go_sem] <;> omega) | fail) only [go_sem, hLl, hndl, hTRl, Int.ofNat_lt, c, hy0, hyn, Int.natCast_eq_zero, decide_true, decide_false, bne_self_eq_false] <;> try with_reducible rfl) | apply Wp.block | apply Wp.exitS | apply Wp.retS | apply Wp.exit | apply Wp.ret | apply Wp.skip)
    apply round_next
    ·simp -implicitDefEqProofs (maxSteps := 2000000) (disch := first | exact tt_rfl rfl | omega | (simp only [go_sem] <;> omega) | fail) only [go_sem, norm_eq, Ok.some]; with_reducible rfl
    exact ⟨h', by simp, trivial⟩
   ·repeat (first | apply Wp.seqA | apply Wp.skipS | apply Wp.blockS | ((first | apply Wp.regS | apply Wp.condV | apply Wp.reg | apply Wp.condW | apply fin_ret); simp -implicitDefEqProofs (maxSteps := 2000000) (disch := first | exact tt_rfl rfl | omega | (simp only [go_sem] <;> omega) | fail) only [go_sem, hLl, hndl, hTRl, Int.ofNat_lt, c1, c2, hy0, hyn, Int.natCast_eq_zero, decide_true, decide_false, bne_self_eq_false] <;> try with_reducible rfl) | apply Wp.block | apply Wp.exitS | apply Wp.retS | apply Wp.exit | apply Wp.ret | apply Wp.skip)
    apply round_next
    ·simp -implicitDefEqProofs (maxSteps := 2000000) (disch := first | exact tt_rfl rfl | omega | (simp only [go_sem] <;> omega) | fail) only [go_sem, norm_eq, Ok.some]; with_reducible rfl
    exact ⟨h', by simp, trivial⟩
  obtain ⟨s1, s2, s3, s4, s5, s6, s7, s8, s9⟩ := hsub y hsk (by omega) (by omega)
  have hz0 : maskL y ^^^ maskL nd ≠ 0 := fun e => hyn (by
   have := congrArg (fun m => m ^^^ maskL nd) e
   simpa [Nat.xor_assoc] using this)
  obtain ⟨p, hp1, hp2, hp3⟩ := low_bit ⟨maskL y ^^^ maskL nd, hx8⟩ hz0;simp only at hp1 hp2 hp3;have hp8 : 2 ^ p.1 ≤ 2 ^ 8 := Nat.pow_le_pow_right (by omega) (by omega)
  have hw5 := w_and (maskL y) (2 ^ p.1) (by omega) (by omega)
  have hneg : IntKind.wrap .i64 (0 - ((maskL y ^^^ maskL nd : Nat) : Int)) = 0 - ((maskL y ^^^ maskL nd : Nat) : Int) := wrap_id (by omega) (by omega)
  have hmin : diffN (firstN (wayB x) (origN x).hk (origN x).rows.length (subD (madeTo x N).l y)) (firstN (wayB x) (origN x).hk (origN x).rows.length (madeTo x N).l) = 0 → ¬ y.length < nd.length ∧ maskL y &&& 2 ^ p.1 = 0 := fun e => by
   have h1 := d6 y hya (by omega) hsk (s9.1 e)
   unfold lessL at h1;by_cases hl : y.length = nd.length
   ·rw [if_pos hl] at h1
    refine ⟨by omega, ?_⟩
    cases hb : (maskL y).testBit p.1 with
    | false =>
     apply Nat.eq_of_testBit_eq;intro j;rw [Nat.testBit_and, Nat.testBit_two_pow, Nat.zero_testBit];by_cases e : p.1 = j
     ·subst e; rw [hb]; rfl
     ·simp [e]
    | true =>
     exfalso;rw [Nat.testBit_xor, hb] at hp2;have hpn : p.1 ∉ nd := fun hm => by
      rw [maskL_bit, decide_eq_true hm] at hp2; cases hp2
     have hpy : p.1 ∈ y := by rw [maskL_bit] at hb; exact of_decide_eq_true hb
     have := lex_mask hya d1 hl hpy hpn fun j hj => by
      have := hp3 ⟨j, by omega⟩ hj
      rw [Nat.testBit_xor, maskL_bit, maskL_bit] at this;simpa using this
     rw [this] at h1; cases h1
   ·rw [if_neg hl] at h1
    exact absurd (of_decide_eq_false h1) (by omega)
  have t7 : (natsV (firstN (wayB x) (origN x).hk (origN x).rows.length (subD (madeTo x N).l y)).rows).take (origN x).rows.length = natsV (firstN (wayB x) (origN x).hk (origN x).rows.length (subD (madeTo x N).l y)).rows := List.take_of_length_le (by omega)
  have t6 : ((subD (madeTo x N).l y).map setV).take y.length = (subD (madeTo x N).l y).map setV := List.take_of_length_le (by omega)
  have p8 := nats_plain (firstN (wayB x) (origN x).hk (origN x).rows.length (subD (madeTo x N).l y)).rows;generalize diffN (firstN (wayB x) (origN x).hk (origN x).rows.length (subD (madeTo x N).l y)) (firstN (wayB x) (origN x).hk (origN x).rows.length (madeTo x N).l) = DV at *;generalize natsV (firstN (wayB x) (origN x).hk (origN x).rows.length (subD (madeTo x N).l y)).rows = YR at *;generalize (subD (madeTo x N).l y).map setV = YS at *;generalize (subD (madeTo x N).l y).map tvN = YT at *;generalize maskL y = my at *;generalize maskL nd = mn at *;have hme : ¬ (my : Int) = (mn : Int) := by omega
  have hpa : my &&& 2 ^ p.1 ≤ my := Nat.and_le_left;by_cases hD0 : DV = 0
  ·obtain ⟨m1, m2⟩ := hmin hD0
   subst hD0;rw [m2] at hw5;rcases hcase with c | ⟨c1, c2⟩
   ·repeat (first | apply Wp.seqA | apply Wp.skipS | apply Wp.blockS | ((first | apply Wp.regS | apply Wp.condV | apply Wp.reg | apply Wp.condW | apply fin_ret); simp -implicitDefEqProofs (maxSteps := 2000000) (disch := first | exact tt_rfl rfl | omega | (simp only [go_sem] <;> omega) | fail) only [go_sem, hLl, hndl, hTRl, Int.ofNat_lt, c, hy0, hme, s1, s2, s3, s4, s5, s6, s7, s8, t6, t7, p8, tFR, hFl, hFp, tOR, hOl, hOp, hxl, hneg, hp1, hw5, m1, Int.natCast_eq_zero, decide_true, decide_false, bne_self_eq_false] <;> try with_reducible rfl) | apply Wp.block | apply Wp.exitS | apply Wp.retS | apply Wp.exit | apply Wp.ret | apply Wp.skip)
    apply round_next
    ·simp -implicitDefEqProofs (maxSteps := 2000000) (disch := first | exact tt_rfl rfl | omega | (simp only [go_sem] <;> omega) | fail) only [go_sem, norm_eq, Ok.some]; with_reducible rfl
    exact ⟨h', by simp, trivial⟩
   ·repeat (first | apply Wp.seqA | apply Wp.skipS | apply Wp.blockS | ((first | apply Wp.regS | apply Wp.condV | apply Wp.reg | apply Wp.condW | apply fin_ret); simp -implicitDefEqProofs (maxSteps := 2000000) (disch := first | exact tt_rfl rfl | omega | (simp only [go_sem] <;> omega) | fail) only [go_sem, hLl, hndl, hTRl, Int.ofNat_lt, c1, c2, hy0, hme, s1, s2, s3, s4, s5, s6, s7, s8, t6, t7, p8, tFR, hFl, hFp, tOR, hOl, hOp, hxl, hneg, hp1, hw5, m1, Int.natCast_eq_zero, decide_true, decide_false, bne_self_eq_false] <;> try with_reducible rfl) | apply Wp.block | apply Wp.exitS | apply Wp.retS | apply Wp.exit | apply Wp.ret | apply Wp.skip)
    apply round_next
    ·simp -implicitDefEqProofs (maxSteps := 2000000) (disch := first | exact tt_rfl rfl | omega | (simp only [go_sem] <;> omega) | fail) only [go_sem, norm_eq, Ok.some]; with_reducible rfl
    exact ⟨h', by simp, trivial⟩
  ·rcases hcase with c | ⟨c1, c2⟩
   ·repeat (first | apply Wp.seqA | apply Wp.skipS | apply Wp.blockS | ((first | apply Wp.regS | apply Wp.condV | apply Wp.reg | apply Wp.condW | apply fin_ret); simp -implicitDefEqProofs (maxSteps := 2000000) (disch := first | exact tt_rfl rfl | omega | (simp only [go_sem] <;> omega) | fail) only [go_sem, hLl, hndl, hTRl, Int.ofNat_lt, c, hy0, hme, s1, s2, s3, s4, s5, s6, s7, s8, t6, t7, p8, tFR, hFl, hFp, tOR, hOl, hOp, hxl, hneg, hp1, hD0, Int.natCast_eq_zero, decide_true, decide_false, bne_self_eq_false] <;> try with_reducible rfl) | apply Wp.block | apply Wp.exitS | apply Wp.retS | apply Wp.exit | apply Wp.ret | apply Wp.skip)
    apply round_next
    ·simp -implicitDefEqProofs (maxSteps := 2000000) (disch := first | exact tt_rfl rfl | omega | (simp only [go_sem] <;> omega) | fail) only [go_sem, norm_eq, Ok.some]; with_reducible rfl
    exact ⟨h', by simp, trivial⟩
   ·repeat (first | apply Wp.seqA | apply Wp.skipS | apply Wp.blockS | ((first | apply Wp.regS | apply Wp.condV | apply Wp.reg | apply Wp.condW | apply fin_ret); simp -implicitDefEqProofs (maxSteps := 2000000) (disch := first | exact tt_rfl rfl | omega | (simp only [go_sem] <;> omega) | fail) only [go_sem, hLl, hndl, hTRl, Int.ofNat_lt, c1, c2, hy0, hme, s1, s2, s3, s4, s5, s6, s7, s8, t6, t7, p8, tFR, hFl, hFp, tOR, hOl, hOp, hxl, hneg, hp1, hD0, Int.natCast_eq_zero, decide_true, decide_false, bne_self_eq_false] <;> try with_reducible rfl) | apply Wp.block | apply Wp.exitS | apply Wp.retS | apply Wp.exit | apply Wp.ret | apply Wp.skip)
    apply round_next
    ·simp -implicitDefEqProofs (maxSteps := 2000000) (disch := first | exact tt_rfl rfl | omega | (simp only [go_sem] <;> omega) | fail) only [go_sem, norm_eq, Ok.some]; with_reducible rfl
    exact ⟨h', by simp, trivial⟩
 obtain rfl : i = min tries.length 10 := by omega
 have hexit : (min tries.length 10 = tries.length) ∨ (min tries.length 10 = 10 ∧ 10 < tries.length) := by omega
 clear hsub d6 hD;by_cases hN2 : N = 1
 ·subst hN2
  rcases hexit with e | ⟨e, e'⟩
  ·rw [e]
   repeat (first | apply Wp.seqA | apply Wp.skipS | apply Wp.blockS | ((first | apply Wp.regS | apply Wp.condV | apply Wp.reg | apply Wp.condW | apply fin_ret); simp -implicitDefEqProofs (maxSteps := 2000000) (disch := first | exact tt_rfl rfl | omega | (simp only [go_sem] <;> omega) | fail) only [go_sem, hLl, hTRl, Int.ofNat_lt, Nat.lt_irrefl, Int.lt_irrefl, kn, decide_true, decide_false, bne_self_eq_false] <;> try with_reducible rfl) | apply Wp.block | apply Wp.exitS | apply Wp.retS | apply Wp.exit | apply Wp.ret | apply Wp.skip)
  ·rw [e]
   repeat (first | apply Wp.seqA | apply Wp.skipS | apply Wp.blockS | ((first | apply Wp.regS | apply Wp.condV | apply Wp.reg | apply Wp.condW | apply fin_ret); simp -implicitDefEqProofs (maxSteps := 2000000) (disch := first | exact tt_rfl rfl | omega | (simp only [go_sem] <;> omega) | fail) only [go_sem, hLl, hTRl, Int.ofNat_lt, e', Nat.lt_irrefl, Int.lt_irrefl, kn, decide_true, decide_false, bne_self_eq_false] <;> try with_reducible rfl) | apply Wp.block | apply Wp.exitS | apply Wp.retS | apply Wp.exit | apply Wp.ret | apply Wp.skip)
 obtain ⟨K, rfl⟩ : ∃ K, N = K + 1 := ⟨N - 1, by omega⟩
 have hS2 := madeTo_sets x (show 1 ≤ K by omega) (show K ≤ 10 by omega)
 have hl2 := (madeTo_len x K).1;have o2 := ownS_ok hS2;have f2 := First_ok hS2 (wayB x);have lf2 := first_like x hS2;have z2 := sized_like lf2 lo;have d1' := differ_like lf lo;have d2' := differ_like lf2 lo;have e2 := tvN_fe (madeTo x K).l;have n2 : ((madeTo x K).l.map setV).length = K := by simp [hl2]
 have n3 : ((madeTo x K).l.map tvN).length = K := by simp [hl2]
 have n4 : (natsV (firstN (wayB x) (origN x).hk (origN x).rows.length (madeTo x K).l).rows).length = (origN x).rows.length := by simp [firstN]
 have p4 := nats_plain (firstN (wayB x) (origN x).hk (origN x).rows.length (madeTo x K).l).rows;have t4 : (natsV (firstN (wayB x) (origN x).hk (origN x).rows.length (madeTo x K).l).rows).take (origN x).rows.length = natsV (firstN (wayB x) (origN x).hk (origN x).rows.length (madeTo x K).l).rows := List.take_of_length_le (by omega)
 have hpre : ((madeTo x (K + 1)).l.map setV).take K = (madeTo x K).l.map setV := by
  rw [← List.map_take]
  congr 1
  show ((madeTo x K).l ++ _).take K = _
  rw [List.take_append_of_le_length (by omega), List.take_of_length_le (by omega)]
 have hKm : (((K + 1 : Nat) : Int) - 1) = (K : Int) := by omega
 have hK0 : ((K : Int) - 0).toNat = K := by omega
 have hK1 : (1 : Int) < ((K + 1 : Nat) : Int) := by omega
 have hfd := fewer_diff x (K := K) (by omega) (by omega)
 obtain ⟨c1, e1, c2, e2', hc1, hc2, hce⟩ := fewer_count x (K := K) (by omega) (by omega)
 generalize diffN (firstN (wayB x) (origN x).hk (origN x).rows.length (madeTo x K).l) (origN x) = D2 at *;generalize diffN (firstN (wayB x) (origN x).hk (origN x).rows.length (madeTo x (K + 1)).l) (origN x) = D1 at *;generalize natsV (firstN (wayB x) (origN x).hk (origN x).rows.length (madeTo x K).l).rows = FR2 at *;generalize natsV (firstN (wayB x) (origN x).hk (origN x).rows.length (madeTo x (K + 1)).l).rows = FR1 at *;generalize (madeTo x K).l.map setV = A2 at *;generalize (madeTo x K).l.map tvN = T2 at *;generalize (madeTo x (K + 1)).l.map setV = A1 at *;generalize (madeTo x (K + 1)).l.map tvN = T1 at *;have hfd' : ¬ (D2 : Int) < (D1 : Int) := by omega
 rcases hce with rfl | ⟨rfl, rfl, hcc⟩
 ·rcases hexit with e | ⟨e, e'⟩
  ·rw [e]
   repeat (first | apply Wp.seqA | apply Wp.skipS | apply Wp.blockS | ((first | apply Wp.regS | apply Wp.condV | apply Wp.reg | apply Wp.condW | apply fin_ret); simp -implicitDefEqProofs (maxSteps := 2000000) (disch := first | exact tt_rfl rfl | omega | (simp only [go_sem] <;> omega) | fail) only [go_sem, hLl, hTRl, Int.ofNat_lt, Nat.lt_irrefl, Int.lt_irrefl, gt_iff_lt, hK1, hKm, hK0, hpre, o2, f2, z2, d1', d2', e2, n2, n3, n4, p4, t4, hO, hTl, hfe, tAA, tFR, hFl, hFp, tOR, hOl, hOp, hc1, hc2, hfd', hfd, kn, decide_true, decide_false, bne_self_eq_false, ite_self] <;> try with_reducible rfl) | apply Wp.block | apply Wp.exitS | apply Wp.retS | apply Wp.exit | apply Wp.ret | apply Wp.skip)
  ·rw [e]
   repeat (first | apply Wp.seqA | apply Wp.skipS | apply Wp.blockS | ((first | apply Wp.regS | apply Wp.condV | apply Wp.reg | apply Wp.condW | apply fin_ret); simp -implicitDefEqProofs (maxSteps := 2000000) (disch := first | exact tt_rfl rfl | omega | (simp only [go_sem] <;> omega) | fail) only [go_sem, hLl, hTRl, Int.ofNat_lt, e', Nat.lt_irrefl, Int.lt_irrefl, gt_iff_lt, hK1, hKm, hK0, hpre, o2, f2, z2, d1', d2', e2, n2, n3, n4, p4, t4, hO, hTl, hfe, tAA, tFR, hFl, hFp, tOR, hOl, hOp, hc1, hc2, hfd', hfd, kn, decide_true, decide_false, bne_self_eq_false, ite_self] <;> try with_reducible rfl) | apply Wp.block | apply Wp.exitS | apply Wp.retS | apply Wp.exit | apply Wp.ret | apply Wp.skip)
 ·rcases hexit with e | ⟨e, e'⟩
  ·rw [e]
   repeat (first | apply Wp.seqA | apply Wp.skipS | apply Wp.blockS | ((first | apply Wp.regS | apply Wp.condV | apply Wp.reg | apply Wp.condW | apply fin_ret); simp -implicitDefEqProofs (maxSteps := 2000000) (disch := first | exact tt_rfl rfl | omega | (simp only [go_sem] <;> omega) | fail) only [go_sem, hLl, hTRl, Int.ofNat_lt, Nat.lt_irrefl, Int.lt_irrefl, gt_iff_lt, hK1, hKm, hK0, hpre, o2, f2, z2, d1', d2', e2, n2, n3, n4, p4, t4, hO, hTl, hfe, tAA, tFR, hFl, hFp, tOR, hOl, hOp, hc1, hc2, hfd', hfd, hcc, kn, decide_true, decide_false, bne_self_eq_false, ite_self] <;> try with_reducible rfl) | apply Wp.block | apply Wp.exitS | apply Wp.retS | apply Wp.exit | apply Wp.ret | apply Wp.skip)
  ·rw [e]
   repeat (first | apply Wp.seqA | apply Wp.skipS | apply Wp.blockS | ((first | apply Wp.regS | apply Wp.condV | apply Wp.reg | apply Wp.condW | apply fin_ret); simp -implicitDefEqProofs (maxSteps := 2000000) (disch := first | exact tt_rfl rfl | omega | (simp only [go_sem] <;> omega) | fail) only [go_sem, hLl, hTRl, Int.ofNat_lt, e', Nat.lt_irrefl, Int.lt_irrefl, gt_iff_lt, hK1, hKm, hK0, hpre, o2, f2, z2, d1', d2', e2, n2, n3, n4, p4, t4, hO, hTl, hfe, tAA, tFR, hFl, hFp, tOR, hOl, hOp, hc1, hc2, hfd', hfd, hcc, kn, decide_true, decide_false, bne_self_eq_false, ite_self] <;> try with_reducible rfl) | apply Wp.block | apply Wp.exitS | apply Wp.retS | apply Wp.exit | apply Wp.ret | apply Wp.skip)
end Go.Abs
