/-
 Chapter 12: the original by its keys: plain laws.
-/
import Derived.Test.YtodpkfillohplaaDoorX29
import Derived.Test.YtodpkfillohplaaDoorLLike
set_option linter.all false
namespace Go.Abs
set_option maxRecDepth 10000
def keysF (f : Nat → Int) (n : Nat) : List Int := (List.range n).map f
@[simp] theorem keysF_len (f : Nat → Int) (n : Nat) : (keysF f n).length = n := by simp [keysF]
theorem keysF_at {f : Nat → Int} {n i : Nat} (h : i < n) : (keysF f n).getD i 0 = f i := by simp [keysF, h]
theorem keysF_congr {f g : Nat → Int} {n : Nat} (h : ∀ i, i < n → f i = g i) : keysF f n = keysF g n :=
 List.map_congr_left fun i hi => h i (List.mem_range.1 hi)
theorem keysF_set {f g : Nat → Int} {n k : Nat} {v : Int} (hk : k < n) (h1 : g k = v) (h2 : ∀ i, i < n → i ≠ k → g i = f i) : (keysF f n).set k v = keysF g n := by
 refine List.ext_getElem (by simp) fun i g1 g2 => ?_
 rw [List.getElem_set];have hi : i < n := by simpa using g2
 simp only [keysF, List.getElem_map, List.getElem_range];split
 ·rename_i e; subst e; exact h1.symm
 ·rename_i e; exact (h2 i hi fun e' => e e'.symm).symm
theorem keysF_ok {f : Nat → Int} {n : Nat} (h : ∀ i, i < n → -1 ≤ f i ∧ f i ≤ 27624) : keysE n (keysF f n) = 0 := by
 unfold keysE;rw [if_neg (by simp), if_pos]
 refine List.all_eq_true.2 fun k hk => ?_
 obtain ⟨i, hi, rfl⟩ := List.mem_map.1 hk;exact decide_eq_true (h i (List.mem_range.1 hi))
theorem keyN_small {x hk : Nat} (hx : x < 2 ^ hk) (h12 : hk ≤ 12) : keyN x ≤ 7212 := by
 unfold keyN;rw [bitsN_top hx (by omega), sumB_top hx (by omega)]
 have h1 := bitsN_le x hk;have h2 := sumB_two x hk;have h3 : hk * hk ≤ 12 * 12 := Nat.mul_le_mul h12 h12;omega
theorem row_in {t : Bool} {hk j x : Nat} {k : Int} (hx : x < 2 ^ hk) (hin : ∀ q, j.testBit q = true → (turnR t hk x).testBit q = true) (hk' : k = -1 ∨ k = ((keyN x : Nat) : Int)) : x ∈ rowsT t hk j k := by
 refine List.mem_filter.2 ⟨List.mem_range.2 hx, ?_⟩;unfold rowP;rw [Bool.and_eq_true];refine ⟨betX_iff.2 fun q hq => ⟨fun h => ?_, fun _ => full_bit hq⟩, ?_⟩
 ·have := hin q h
  rwa [turnR_bit hq] at this
 ·rcases hk' with rfl | rfl <;> simp
section
variable {t : Bool} {hk j o S C M : Nat} {k : Int}
theorem card_bits (hc : CardOk t hk j k S C M) (ho : o ∈ rowsT t hk j k) {q : Nat} (hq : q < hk) : (S.testBit q = true → (o.testBit q ^^ t) = true) ∧ ((o.testBit q ^^ t) = true → C.testBit q = true) := by
 have hne : rowsT t hk j k ≠ [] := fun e => by rw [e] at ho; cases ho
 obtain ⟨h1, h2⟩ := hc.b hne q hq;refine ⟨fun h => ?_, fun h => ?_⟩
 ·rw [h1] at h
  exact List.all_eq_true.1 h o ho
 ·rw [h2]
  exact List.any_eq_true.2 ⟨o, ho, h⟩
theorem card_pos (hc : CardOk t hk j k S C M) (ho : o ∈ rowsT t hk j k) : 1 ≤ M := by
 rw [hc.m]; exact List.length_pos_of_mem ho
theorem card_one (hc : CardOk t hk j k S C M) (ho : o ∈ rowsT t hk j k) (h : M = 1) {q : Nat} (hq : q < hk) : S.testBit q = (o.testBit q ^^ t) ∧ C.testBit q = (o.testBit q ^^ t) := by
 have hne : rowsT t hk j k ≠ [] := fun e => by rw [e] at ho; cases ho
 obtain ⟨h1, h2⟩ := hc.b hne q hq;rw [hc.m] at h
 match hL : rowsT t hk j k, h with
 | [a], _ =>
  rw [hL] at ho h1 h2;obtain rfl := List.mem_singleton.1 ho;simpa using And.intro h1 h2
theorem card_two (hc : CardOk t hk j k S C M) (h : 2 ≤ M) : ∃ q, q < hk ∧ S.testBit q = false ∧ C.testBit q = true := by
 rw [hc.m] at h;have hp : (rowsT t hk j k).Pairwise (· < ·) := (List.pairwise_lt_range (n := 2 ^ hk)).filter _;have hlt : ∀ x ∈ rowsT t hk j k, x < 2 ^ hk := fun x hx => List.mem_range.1 (List.mem_filter.1 hx).1
 have hb := hc.b
 match hL : rowsT t hk j k, h with
 | a :: b :: r, _ =>
  rw [hL] at hp hlt hb;have hab : a < b := (List.pairwise_cons.1 hp).1 b (by simp)
  have ha := hlt a (by simp)
  have hb' := hlt b (by simp)
  have hex : ∃ q, q < hk ∧ a.testBit q ≠ b.testBit q := Classical.byContradiction fun hno => by
   have : a = b := Nat.eq_of_testBit_eq fun q => by
    rcases Nat.lt_or_ge q hk with g | g
    ·exact Classical.byContradiction fun e => hno ⟨q, g, e⟩
    ·rw [bit_high ha g, bit_high hb' g]
   omega
  obtain ⟨q, hq, hne⟩ := hex;obtain ⟨h1, h2⟩ := hb (by simp) q hq
  refine ⟨q, hq, ?_, ?_⟩
  ·rw [h1]
   simp only [List.all_cons];cases hx : a.testBit q <;> cases hy : b.testBit q <;> cases t <;> simp_all
  ·rw [h2]
   simp only [List.any_cons];cases hx : a.testBit q <;> cases hy : b.testBit q <;> cases t <;> simp_all
end
theorem prodM_ne {M : Nat → Nat} : ∀ {n : Nat}, (∀ i, i < n → 1 ≤ M i) → 1 ≤ prodM M n
 | 0, _ => Nat.le_refl _
 | n + 1, h => by
  have h1 := prodM_ne (n := n) fun i hi => h i (by omega)
  have h2 := h n (by omega)
  exact Nat.mul_le_mul h1 h2
theorem prodM_one {M : Nat → Nat} : ∀ {n : Nat}, (∀ i, i < n → 1 ≤ M i) → prodM M n = 1 → ∀ i, i < n → M i = 1
 | 0, _, _, i, h => by omega
 | n + 1, h, e, i, hi => by
  have e' : prodM M n * M n = 1 := e;have hP := prodM_ne (M := M) (n := n) fun i hi => h i (by omega)
  have hQ := h n (by omega)
  have g1 : prodM M n * 1 ≤ prodM M n * M n := Nat.mul_le_mul_left _ hQ;have g2 : 1 * M n ≤ prodM M n * M n := Nat.mul_le_mul_right _ hP;have h1 : prodM M n = 1 ∧ M n = 1 := by omega
  by_cases hin : i = n
  ·subst hin; exact h1.2
  ·exact prodM_one (n := n) (fun i hi => h i (by omega)) h1.1 i (by omega)
theorem prodM_two {M : Nat → Nat} : ∀ {n : Nat}, 1 < prodM M n → ∃ i, i < n ∧ 2 ≤ M i
 | 0, h => by simp [prodM] at h
 | n + 1, h => by
  by_cases e : 2 ≤ M n
  ·exact ⟨n, by omega, e⟩
  ·have h1 : 1 < prodM M n := by
    have h' : 1 < prodM M n * M n := h;have : prodM M n * M n ≤ prodM M n * 1 := Nat.mul_le_mul_left _ (by omega)
    omega
   obtain ⟨i, hi, hm⟩ := prodM_two h1;exact ⟨i, by omega, hm⟩
theorem prodM_mono {M M' : Nat → Nat} : ∀ {n : Nat}, (∀ i, i < n → M' i ≤ M i) → prodM M' n ≤ prodM M n
 | 0, _ => Nat.le_refl _
 | n + 1, h => Nat.mul_le_mul (prodM_mono (n := n) fun i hi => h i (by omega)) (h n (by omega))
theorem prod_free {hk n : Nat} {J : List Nat} {M : Nat → Nat} (h : ∀ i, i < n → M i = 2 ^ bitsN (freeN hk (J.getD i 0)) 24) : prodM M n = 2 ^ lostN (fullN hk n) J n := by
 have : ∀ m, m ≤ n → prodM M m = 2 ^ lostN (fullN hk n) J m := fun m => by
  induction m with
  | zero => intro _; rfl
  | succ m ih =>
   intro hm;have e : atR (fullN hk n) m = 2 ^ hk - 1 := by
    unfold atR;rw [rows_get (by simp [fullN]; omega)]
    simp [fullN]
   show prodM M m * M m = 2 ^ (lostN (fullN hk n) J m + bitsN (subN (atR (fullN hk n) m) (atR J m)) 24)
   rw [ih (by omega), h m (by omega), Nat.pow_add, e]; rfl
 exact this n (Nat.le_refl _)
def sureR (t : Bool) (hk n : Nat) (S C : Nat → Nat) : List Nat := turnL t hk (if t then upTo C n else upTo S n)
def canR (t : Bool) (hk n : Nat) (S C : Nat → Nat) : List Nat := turnL t hk (if t then upTo S n else upTo C n)
section
variable {t : Bool} {hk n : Nat} {S C M : Nat → Nat} {J o : List Nat} {keys : List Int}
theorem pickR_len2 : (if t then upTo C n else upTo S n).length = n := by cases t <;> simp [upTo]
theorem sureR_len : (sureR t hk n S C).length = n := by unfold sureR; rw [turnL_len]; exact pickR_len2
theorem canR_len : (canR t hk n S C).length = n := by unfold canR; rw [turnL_len]; exact pickR_len2
theorem upTo_lt (h : ∀ i, i < n → S i < 2 ^ hk) : ∀ r ∈ upTo S n, r < 2 ^ hk := fun r hr => by
 obtain ⟨i, hi, rfl⟩ := List.mem_map.1 hr;exact h i (List.mem_range.1 hi)
theorem sureR_lt (h1 : ∀ i, i < n → S i < 2 ^ hk) (h2 : ∀ i, i < n → C i < 2 ^ hk) : ∀ r ∈ sureR t hk n S C, r < 2 ^ hk := by
 unfold sureR;refine turnL_lt ?_;cases t
 ·exact upTo_lt h1
 ·exact upTo_lt h2
theorem canR_lt (h1 : ∀ i, i < n → S i < 2 ^ hk) (h2 : ∀ i, i < n → C i < 2 ^ hk) : ∀ r ∈ canR t hk n S C, r < 2 ^ hk := by
 unfold canR;refine turnL_lt ?_;cases t
 ·exact upTo_lt h2
 ·exact upTo_lt h1
theorem sureR_bit {q i : Nat} (hq : q < n) (hi : i < hk) : ((sureR t hk n S C).getD q 0).testBit i = if t then !(C q).testBit i else (S q).testBit i := by
 unfold sureR;rw [turnL_at _ _ _ (by rw [pickR_len2]; exact hq), turnR_bit hi]
 cases t
 ·show (((upTo S n).getD q 0).testBit i ^^ false) = (S q).testBit i
  rw [upTo_at S hq, Bool.xor_false]
 ·show (((upTo C n).getD q 0).testBit i ^^ true) = !(C q).testBit i
  rw [upTo_at C hq, Bool.xor_true]
theorem canR_bit {q i : Nat} (hq : q < n) (hi : i < hk) : ((canR t hk n S C).getD q 0).testBit i = if t then !(S q).testBit i else (C q).testBit i := by
 unfold canR;rw [turnL_at _ _ _ (by rw [pickR_len2]; exact hq), turnR_bit hi]
 cases t
 ·show (((upTo C n).getD q 0).testBit i ^^ false) = (C q).testBit i
  rw [upTo_at C hq, Bool.xor_false]
 ·show (((upTo S n).getD q 0).testBit i ^^ true) = !(S q).testBit i
  rw [upTo_at S hq, Bool.xor_true]
structure CardsOk (t : Bool) (hk n : Nat) (J : List Nat) (keys : List Int) (o : List Nat) (S C M : Nat → Nat) : Prop where
 c : ∀ i, i < n → CardOk t hk (J.getD i 0) (keys.getD i 0) (S i) (C i) (M i)
 i : ∀ i, i < n → o.getD i 0 ∈ rowsT t hk (J.getD i 0) (keys.getD i 0)
 l : o.length = n
 lt : ∀ r ∈ o, r < 2 ^ hk
theorem CardsOk.pos (h : CardsOk t hk n J keys o S C M) : ∀ i, i < n → 1 ≤ M i := fun i hi => card_pos (h.c i hi) (h.i i hi)
theorem CardsOk.sure (h : CardsOk t hk n J keys o S C M) : ∀ q i, ((sureR t hk n S C).getD q 0).testBit i = true → (o.getD q 0).testBit i = true := fun q i hb => by
 obtain ⟨hq, hi⟩ := bit_in sureR_len (sureR_lt (fun i hi => (h.c i hi).s) (fun i hi => (h.c i hi).c)) hb
 obtain ⟨h1, h2⟩ := card_bits (h.c q hq) (h.i q hq) hi;rw [sureR_bit hq hi] at hb;cases t with
 | false => simpa using h1 (by simpa using hb)
 | true =>
  simp only [if_true, Bool.not_eq_true'] at hb;cases ho : (o.getD q 0).testBit i with
  | true => rfl
  | false => rw [ho] at h2; rw [h2 rfl] at hb; cases hb
theorem CardsOk.can (h : CardsOk t hk n J keys o S C M) : ∀ q i, (o.getD q 0).testBit i = true → ((canR t hk n S C).getD q 0).testBit i = true := fun q i hb => by
 obtain ⟨hq, hi⟩ := bit_in h.l h.lt hb;obtain ⟨h1, h2⟩ := card_bits (h.c q hq) (h.i q hq) hi;rw [canR_bit hq hi];rw [hb] at h1 h2;cases t with
 | false => simpa using h2 rfl
 | true =>
  simp only [if_true];cases hs : (S q).testBit i with
  | false => rfl
  | true => exact absurd (h1 hs) (by decide)
theorem list_bits {a b : List Nat} (ha : a.length = n) (hb : b.length = n) (la : ∀ r ∈ a, r < 2 ^ hk) (lb : ∀ r ∈ b, r < 2 ^ hk) (h : ∀ q, q < n → ∀ i, i < hk → (a.getD q 0).testBit i = (b.getD q 0).testBit i) : a = b := by
 refine List.ext_getElem (by omega) fun q g1 g2 => ?_
 apply Nat.eq_of_testBit_eq;intro i;have := h q (by omega) i
 rw [rows_get g1, rows_get g2] at this;rcases Nat.lt_or_ge i hk with g | g
 ·exact this g
 ·rw [bit_high (la _ (List.getElem_mem g1)) g, bit_high (lb _ (List.getElem_mem g2)) g]
theorem CardsOk.one (h : CardsOk t hk n J keys o S C M) (e : prodM M n = 1) : sureR t hk n S C = o ∧ canR t hk n S C = o := by
 have hm := prodM_one h.pos e;have ls := fun i hi => (h.c i hi).s
 have lc := fun i hi => (h.c i hi).c
 constructor
 ·refine list_bits sureR_len h.l (sureR_lt ls lc) h.lt fun q hq i hi => ?_
  obtain ⟨h1, h2⟩ := card_one (h.c q hq) (h.i q hq) (hm q hq) hi;rw [sureR_bit hq hi, h1, h2];cases t <;> simp
 ·refine list_bits canR_len h.l (canR_lt ls lc) h.lt fun q hq i hi => ?_
  obtain ⟨h1, h2⟩ := card_one (h.c q hq) (h.i q hq) (hm q hq) hi;rw [canR_bit hq hi, h1, h2];cases t <;> simp
theorem CardsOk.two (h : CardsOk t hk n J keys o S C M) (e : 1 < prodM M n) : sureR t hk n S C ≠ canR t hk n S C := by
 obtain ⟨q, hq, hm⟩ := prodM_two e;obtain ⟨i, hi, h1, h2⟩ := card_two (h.c q hq) hm;intro heq;have e1 := sureR_bit (t := t) (S := S) (C := C) hq hi;have e2 := canR_bit (t := t) (S := S) (C := C) hq hi;rw [heq, e2, h1, h2] at e1;cases t <;> simp at e1
end
theorem bits_eq {x y : Nat} (hx : x < 2 ^ 24) (hy : y < 2 ^ 24) (h : bitsN (x ^^^ y) 24 = 0) : x = y := by
 apply Nat.eq_of_testBit_eq;intro j;rcases Nat.lt_or_ge j 24 with g | g
 ·have := bitsS_zero h j g
  rw [Nat.testBit_xor] at this;cases h1 : x.testBit j <;> cases h2 : y.testBit j <;> simp_all
 ·rw [bit_high hx g, bit_high hy g]
theorem diff_zero {a b : DesN} (ha : a.Ok) (hb : b.Ok) (hr : a.rows.length = b.rows.length) (h : diffN a b = 0) : a.rows = b.rows := by
 have key : ∀ n, n ≤ a.rows.length → diffTo a b n = 0 → ∀ q, q < n → a.rows.getD q 0 = b.rows.getD q 0 := fun n => by
  induction n with
  | zero => intro _ _ q hq; omega
  | succ n ih =>
   intro hn h q hq;unfold diffTo at h;have g1 : diffTo a b n = 0 := by omega
   have g2 : bitsN (a.rows.getD n 0 ^^^ b.rows.getD n 0) 24 = 0 := by omega
   by_cases e : q = n
   ·subst e; exact bits_eq (ha.at24 (by omega)) (hb.at24 (by omega)) g2
   ·exact ih (by omega) g1 q (by omega)
 refine List.ext_getElem hr fun q g1 g2 => ?_
 have := key a.rows.length (Nat.le_refl _) h q g1
 rwa [rows_get g1, rows_get g2] at this
theorem diff_same (d : DesN) : diffN d d = 0 := by
 have : ∀ i, diffTo d d i = 0 := fun i => by
  induction i with
  | zero => rfl
  | succ i ih => unfold diffTo; rw [ih, Nat.xor_self]; simp [bitsN]
 exact this _
theorem filter_one (p : Nat → Bool) (k : Nat) : ∀ n, k < n → (∀ j, j < n → p j = decide (j = k)) → (List.range n).filter p = [k]
 | 0, h, _ => by omega
 | n + 1, h, hp => by
  rw [List.range_succ, List.filter_append, List.filter_cons, List.filter_nil, hp n (by omega)]
  by_cases e : n = k
  ·subst e
   have : (List.range n).filter p = [] := List.filter_eq_nil_iff.2 fun j hj => by
    have := List.mem_range.1 hj;rw [hp j (by omega)]
    simp; omega
   rw [this]; simp
  ·rw [filter_one p k n (by omega) fun j hj => hp j (by omega)]
   simp [e]
end Go.Abs
