/-
 Several texts: ZS6, ZS7, ZS9, ZS10, ZS11, ZS12, ZS13, ZS14, ZS16, ZS17, ZS18.
-/
import Derived.Test.YtgpbjihpkoiaiaaZS5
import Derived.Test.YtgpbjihpkoiaiaaWpE
set_option linter.all false
namespace Go.Abs.Seam
set_option maxRecDepth 10000
set_option maxHeartbeats 4000000
def at' (l : List Span) (i : Nat) : Span := l[i]?.getD ⟨0, 0⟩
theorem at'_get {l : List Span} {i : Nat} (h : i < l.length) : at' l i = l[i] := by simp [at', h]
def big : Span := ⟨-1099511627776, 1099511627776⟩
def foR (wa wb : List Span) (s : Span) (i : Nat) : Span := ⟨s.lo + (at' wa i).lo - (at' wb i).hi, s.hi + (at' wa i).hi - (at' wb i).lo⟩
def fo (wa wb : List Span) (ts : List Int) : Nat → Span
 | 0 => ⟨0, 0⟩
 | i + 1 => if ((i : Int) + 1) ∈ ts then ⟨0, 0⟩ else foR wa wb (fo wa wb ts i) i
def baD (wa wb : List Span) (ts : List Int) (n : Nat) : Nat → Span
 | 0 => if (n : Int) = 0 ∨ (n : Int) ∈ ts then ⟨0, 0⟩ else big
 | d + 1 => if (n : Int) - (d + 1 : Nat) = 0 ∨ (n : Int) - (d + 1 : Nat) ∈ ts then ⟨0, 0⟩ else
   ⟨(baD wa wb ts n d).lo - (at' wa (n - (d + 1))).hi + (at' wb (n - (d + 1))).lo, (baD wa wb ts n d).hi - (at' wa (n - (d + 1))).lo + (at' wb (n - (d + 1))).hi⟩
def outR (wa wb : List Span) (ts : List Int) (n j : Nat) : Span :=
 ⟨max (fo wa wb ts j).lo (baD wa wb ts n (n - j)).lo, min (fo wa wb ts j).hi (baD wa wb ts n (n - j)).hi⟩
abbrev BadAt (wa wb : List Span) (ts : List Int) (i : Nat) : Prop := ((i : Int) + 1) ∈ ts ∧ ¬ (foR wa wb (fo wa wb ts i) i).Has0
def Wide (w : List Span) : Prop := ∀ i, 0 ≤ (at' w i).lo ∧ (at' w i).lo ≤ 10000 ∧ 0 ≤ (at' w i).hi ∧ (at' w i).hi ≤ 10000
theorem wide_of {l : List Part} (hok : ∀ p ∈ l, p.Ok) : Wide (widthsL l) := by
 intro i;by_cases h : i < (widthsL l).length
 ·rw [at'_get h]; have := widths_mem hok _ (List.getElem_mem h); omega
 ·simp [at', List.getElem?_eq_none (Nat.le_of_not_lt h)]
theorem fo_bound {wa wb : List Span} {ts : List Int} (ha : Wide wa) (hb : Wide wb) : ∀ i : Nat, -10000 * (i : Int) ≤ (fo wa wb ts i).lo ∧ (fo wa wb ts i).lo ≤ 10000 * i ∧ -10000 * (i : Int) ≤ (fo wa wb ts i).hi ∧ (fo wa wb ts i).hi ≤ 10000 * i
 | 0 => by simp [fo]
 | i + 1 => by
  have ih := fo_bound (ts := ts) ha hb i;have := ha i;have := hb i;simp only [fo, foR];split <;> simp only [] <;> omega
theorem ba_bound {wa wb : List Span} {ts : List Int} {n : Nat} (ha : Wide wa) (hb : Wide wb) : ∀ d : Nat, -1099511627776 - 10000 * (d : Int) ≤ (baD wa wb ts n d).lo ∧ (baD wa wb ts n d).lo ≤ 1099511627776 + 10000 * d ∧ -1099511627776 - 10000 * (d : Int) ≤ (baD wa wb ts n d).hi ∧ (baD wa wb ts n d).hi ≤ 1099511627776 + 10000 * d
 | 0 => by simp only [baD, big]; split <;> simp
 | d + 1 => by
  have ih := ba_bound (ts := ts) (n := n) ha hb d;have := ha (n - (d + 1));have := hb (n - (d + 1));simp only [baD];split <;> simp only [] <;> omega
end Go.Abs.Seam
set_option linter.all false
namespace Go.Abs.Seam
def dS (m : List Span) (f e : Nat) : Span := ⟨(pre m e).lo - (pre m f).lo, (pre m e).hi - (pre m f).hi⟩
theorem pre_drop {m : List Span} {f : Nat} : ∀ {k : Nat}, f + k ≤ m.length → pre (m.drop f) k = dS m f (f + k)
 | 0, _ => by simp [pre, dS]
 | k + 1, h => by
  rw [pre_succ (by simp; omega), pre_drop (by omega)]
  simp only [List.getElem_drop, dS, Span.add, ← Nat.add_assoc, pre_succ (show f + k < m.length by omega)]
  congr 1 <;> omega
theorem pre_take {m : List Span} {n : Nat} : ∀ {k : Nat}, k ≤ n → n ≤ m.length → pre (m.take n) k = pre m k
 | 0, _, _ => rfl
 | k + 1, h, hn => by
  rw [pre_succ (by simp; omega), pre_succ (by omega), pre_take (by omega) hn]
  simp
theorem pre_seg {m : List Span} {f t k : Nat} (h1 : f + k ≤ t) (h2 : t ≤ m.length) : pre (seg m f t) k = dS m f (f + k) := by
 unfold seg;rw [pre_take (by omega) (by simp; omega), pre_drop (by omega)]
theorem dS_small {m : List Span} (h : Small m) {f e : Nat} (he : e ≤ m.length) (hf : f ≤ m.length) : -8000000 ≤ (dS m f e).lo ∧ (dS m f e).lo ≤ 8000000 ∧ -8000000 ≤ (dS m f e).hi ∧ (dS m f e).hi ≤ 8000000 := by
 have := h.pre e he;have := h.pre f hf;have := h.1;simp only [dS];omega
section
variable {wa wb : List Span} {ts0 : List Int} (hl : wa.length = wb.length)
include hl
theorem more_at {i : Nat} (h : i < wa.length) : (moreL wa wb)[i]? = some ⟨(at' wa i).lo - (at' wb i).hi, (at' wa i).hi - (at' wb i).lo⟩ := by
 have h' : i < (moreL wa wb).length := by simp [moreL]; omega
 rw [List.getElem?_eq_getElem h', at'_get h, at'_get (by omega : i < wb.length)]
 simp [moreL, Span.sub]
theorem more_length : (moreL wa wb).length = wa.length := by simp [moreL]; omega
theorem pre_more {i : Nat} (h : i < wa.length) : pre (moreL wa wb) (i + 1) = ⟨(pre (moreL wa wb) i).lo + ((at' wa i).lo - (at' wb i).hi), (pre (moreL wa wb) i).hi + ((at' wa i).hi - (at' wb i).lo)⟩ := by
 simp only [pre, more_at hl h, Span.add]
theorem fo_seg {f : Nat} (h0 : fo wa wb ts0 f = ⟨0, 0⟩) : ∀ {e : Nat}, f ≤ e → e ≤ wa.length → (∀ x : Nat, f < x → x ≤ e → ((x : Nat) : Int) ∉ ts0) → fo wa wb ts0 e = dS (moreL wa wb) f e := by
 intro e;induction e with
 | zero =>
  intro h1 _ _;obtain rfl : f = 0 := by omega
  rw [h0]; simp [dS]
 | succ e ih =>
  intro h1 h2 h3;by_cases c : f = e + 1
  ·subst c; rw [h0]; simp [dS]
  ·have hm : ((e : Int) + 1) ∉ ts0 := by have := h3 (e + 1) (by omega) (by omega); simpa using this
   rw [fo, if_neg hm, ih (by omega) (by omega) fun x hx hxe => h3 x hx (by omega)]
   simp only [foR, dS, pre_more hl (show e < wa.length by omega)]
   congr 1 <;> omega
theorem ba_seg {t : Nat} (ht : t ≤ wa.length) (hb : baD wa wb ts0 wa.length (wa.length - t) = ⟨0, 0⟩) : ∀ (j : Nat), j < t → (∀ x : Nat, t - j ≤ x → x < t → ((x : Nat) : Int) ∉ ts0) →
  baD wa wb ts0 wa.length (wa.length - (t - j)) = ⟨0 - (dS (moreL wa wb) (t - j) t).hi, 0 - (dS (moreL wa wb) (t - j) t).lo⟩ := by
 intro j;induction j with
 | zero => intro _ _; rw [Nat.sub_zero, hb]; simp [dS]
 | succ j ih =>
  intro h1 h2;have ih := ih (by omega) fun x hx hxt => h2 x (by omega) hxt
  rw [show wa.length - (t - (j + 1)) = (wa.length - (t - j)) + 1 by omega, baD]
  have hm := h2 (t - (j + 1)) (by omega) (by omega)
  have e1 : (wa.length : Int) - ((wa.length - (t - j) + 1 : Nat) : Int) = ((t - (j + 1) : Nat) : Int) := by omega
  rw [e1, if_neg (by rintro (h | h); omega; exact hm h), ih, show wa.length - (wa.length - (t - j) + 1) = t - (j + 1) by omega]
  have hp := pre_more hl (show t - (j + 1) < wa.length by omega)
  rw [show t - (j + 1) + 1 = t - j by omega] at hp
  simp only [dS, hp]
  congr 1 <;> omega
theorem ba_end : ∀ (j : Nat), j < wa.length → (∀ x : Nat, wa.length - j ≤ x → x ≤ wa.length → ((x : Nat) : Int) ∉ ts0) →
  baD wa wb ts0 wa.length j = ⟨-1099511627776 - (dS (moreL wa wb) (wa.length - j) wa.length).hi, 1099511627776 - (dS (moreL wa wb) (wa.length - j) wa.length).lo⟩ := by
 intro j;induction j with
 | zero =>
  intro h1 h2;rw [baD, if_neg (by rintro (h | h); omega; exact h2 wa.length (by omega) (by omega) h)]
  simp [dS, big]
 | succ j ih =>
  intro h1 h2;have ih := ih (by omega) fun x hx hxt => h2 x (by omega) hxt
  have hm := h2 (wa.length - (j + 1)) (by omega) (by omega)
  have e1 : (wa.length : Int) - ((j + 1 : Nat) : Int) = ((wa.length - (j + 1) : Nat) : Int) := by omega
  rw [baD, e1, if_neg (by rintro (h | h); omega; exact hm h), ih]
  have hp := pre_more hl (show wa.length - (j + 1) < wa.length by omega)
  rw [show wa.length - (j + 1) + 1 = wa.length - j by omega] at hp
  simp only [dS, hp]
  congr 1 <;> omega
theorem ba_mark {e : Nat} (he : e ≤ wa.length) (h : e = 0 ∨ ((e : Nat) : Int) ∈ ts0) : baD wa wb ts0 wa.length (wa.length - e) = ⟨0, 0⟩ := by
 by_cases c : e = wa.length
 ·rw [c, Nat.sub_self, baD, if_pos (by rcases h with h | h; left; omega; right; rw [← c]; exact h)]
 ·rw [show wa.length - e = (wa.length - e - 1) + 1 by omega, baD]
  have e1 : (wa.length : Int) - ((wa.length - e - 1 + 1 : Nat) : Int) = (e : Int) := by omega
  rw [e1, if_pos (by rcases h with h | h; left; omega; right; exact h)]
theorem go_iff (hsm : Small (moreL wa wb)) : ∀ {ts : List Int} {f : Nat}, f ≤ wa.length → (f = 0 ∨ (f : Int) ∈ ts0) → Up wa.length f ts → (∀ x : Nat, f < x → ((x : Int) ∈ ts0 ↔ (x : Int) ∈ ts)) →
  (∀ l, aheadGo (moreL wa wb) f ts = some l → (∀ i, f ≤ i → i < wa.length → ¬ BadAt wa wb ts0 i) ∧ l = (List.range (wa.length - f + 1)).map fun k => outR wa wb ts0 wa.length (f + k)) ∧
  (aheadGo (moreL wa wb) f ts = none → ∃ i, f ≤ i ∧ i < wa.length ∧ BadAt wa wb ts0 i) := by
 have hml := more_length hl;have fo0 : ∀ f : Nat, (f = 0 ∨ (f : Int) ∈ ts0) → fo wa wb ts0 f = ⟨0, 0⟩ := by
  intro f h;cases f with
  | zero => rfl
  | succ f => rw [fo, if_pos (by rcases h with h | h; omega; simpa using h)]
 intro ts;induction ts with
 | nil =>
  intro f hf h0 _ hm;have hno : ∀ x : Nat, f < x → ((x : Nat) : Int) ∉ ts0 := fun x hx h => by simpa using (hm x hx).1 h
  refine ⟨fun l h => ?_, fun h => by simp [aheadGo] at h⟩
  simp only [aheadGo, Option.some.injEq] at h;subst h;refine ⟨fun i hi _ hb => hno (i + 1) (by omega) (by simpa using hb.1), ?_⟩
  simp only [sumsL, List.length_drop, hml];refine List.map_congr_left fun k hk => ?_
  have hk := List.mem_range.1 hk;rw [pre_drop (by omega)]
  have hfo := fo_seg hl (fo0 f h0) (show f ≤ f + k by omega) (by omega) fun x hx _ => hno x hx
  simp only [outR, hfo];by_cases c : k = 0
  ·subst c
   rw [Nat.add_zero, ba_mark hl hf h0];simp [dS]
  ·have := ba_end (ts0 := ts0) hl (wa.length - (f + k)) (by omega) fun x hx _ => hno x (by omega)
   rw [show wa.length - (wa.length - (f + k)) = f + k by omega] at this
   rw [this];have d1 := dS_small hsm (f := f) (e := f + k) (by omega) (by omega)
   have d2 := dS_small hsm (f := f + k) (e := wa.length) (by omega) (by omega)
   dsimp only;rw [Int.max_eq_left (by omega), Int.min_eq_left (by omega)]
 | cons t ts ih =>
  intro f hf h0 hup hm;obtain ⟨u1, u2, u3⟩ := hup;have eT : ((t.toNat : Nat) : Int) = t := Int.toNat_of_nonneg (by omega)
  generalize hT : t.toNat = T at *;have hTmem : ((T : Nat) : Int) ∈ ts0 := (hm T (by omega)).2 (by rw [eT]; simp)
  have hno : ∀ x : Nat, f < x → x < T → ((x : Nat) : Int) ∉ ts0 := by
   intro x hx hxT h;have h1 := (hm x hx).1 h;rcases List.mem_cons.1 h1 with h2 | h2
   ·omega
   ·have key : ∀ (l : List Int) (y : Int), Up wa.length y l → ∀ z ∈ l, y < z := by
     intro l;induction l with
     | nil => simp
     | cons w l ihl =>
      intro y hy z hz;obtain ⟨y1, y2, y3⟩ := hy;rcases List.mem_cons.1 hz with rfl | hz
      ·exact y1
      ·have := ihl w y3 z hz; omega
    have := key ts t u3 _ h2;omega
  have hfoT := fo_seg hl (fo0 f h0) (show f ≤ T - 1 by omega) (by omega) fun x hx hxe => hno x hx (by omega)
  have hraw : foR wa wb (fo wa wb ts0 (T - 1)) (T - 1) = dS (moreL wa wb) f T := by
   have hp := pre_more hl (show T - 1 < wa.length by omega)
   rw [show T - 1 + 1 = T by omega] at hp
   rw [hfoT];simp only [foR, dS, hp]
   congr 1 <;> omega
  have hseg := pre_seg (m := moreL wa wb) (f := f) (t := T) (k := T - f) (by omega) (by omega)
  rw [show f + (T - f) = T by omega] at hseg
  have hbadT : BadAt wa wb ts0 (T - 1) ↔ ¬ (dS (moreL wa wb) f T).Has0 := by
   have : ((T - 1 : Nat) : Int) + 1 = T := by omega
   simp only [BadAt, this, hTmem, true_and, hraw]
  simp only [aheadGo, hT, hseg];by_cases hz : (dS (moreL wa wb) f T).Has0
  ·rw [if_pos hz]
   obtain ⟨i1, i2⟩ := ih (f := T) (by omega) (.inr hTmem) (by rw [eT]; exact u3) fun x hx => by
    rw [hm x (by omega), List.mem_cons]
    constructor
    ·rintro (h | h)
     ·omega
     ·exact h
    ·exact .inr
   constructor
   ·intro l hll
    cases hx : aheadGo (moreL wa wb) T ts with
    | none => rw [hx] at hll; cases hll
    | some l' =>
     rw [hx] at hll;simp only [Option.map_some, Option.some.injEq] at hll;obtain ⟨j1, j2⟩ := i1 l' hx;refine ⟨fun i hi hin => ?_, ?_⟩
     ·by_cases c : T ≤ i
      ·exact j1 i c hin
      ·by_cases c2 : i = T - 1
       ·subst c2; rw [hbadT]; exact fun h => h hz
       ·intro hb
        exact hno (i + 1) (by omega) (by omega) (by simpa using hb.1)
     ·subst hll
      rw [show wa.length - f + 1 = (T - f) + (wa.length - T + 1) by omega, List.range_add, List.map_append, j2]
      congr 1
      ·have hsl : (seg (moreL wa wb) f T).length = T - f := seg_length (by omega) (by omega)
       simp only [strL, hsl, ← List.map_take, List.take_range, Nat.min_eq_left (show T - f ≤ T - f + 1 by omega)]
       refine List.map_congr_left fun k hk => ?_
       have hk := List.mem_range.1 hk;have p1 := pre_seg (m := moreL wa wb) (f := f) (t := T) (k := k) (by omega) (by omega)
       have hfo := fo_seg hl (fo0 f h0) (show f ≤ f + k by omega) (by omega) fun x hx hxe => hno x hx (by omega)
       simp only [strE, hsl, hseg, p1, outR, hfo];by_cases c : k = 0
       ·subst c
        rw [Nat.add_zero, ba_mark hl hf h0];obtain ⟨z1, z2⟩ := hz;simp only [dS] at z1 z2 ⊢
        congr 1 <;> omega
       ·have hb := ba_seg (ts0 := ts0) hl (show T ≤ wa.length by omega) (ba_mark hl (by omega) (.inr hTmem)) (T - (f + k)) (by omega) fun x hx hxT => hno x (by omega) hxT
        rw [show T - (T - (f + k)) = f + k by omega] at hb
        rw [hb];simp only [dS]
        congr 1 <;> congr 1 <;> omega
      ·rw [List.map_map]
       refine List.map_congr_left fun k hk => ?_
       simp only [Function.comp];rw [show f + (T - f + k) = T + k by omega]
   ·intro h
    cases hx : aheadGo (moreL wa wb) T ts with
    | none =>
     obtain ⟨i, k1, k2, k3⟩ := i2 hx;exact ⟨i, by omega, k2, k3⟩
    | some l' => rw [hx] at h; cases h
  ·rw [if_neg hz]
   refine ⟨(fun l h => by cases h), fun _ => ⟨T - 1, by omega, by omega, hbadT.2 hz⟩⟩
end
theorem ahead_ref {a b : List Part} {ts : List Int} (h : (pairL a b).e = 0) (hall : (ts.all fun t => decide (1 ≤ t ∧ t ≤ (pairL a b).more.length)) = true) (hinc : incL ts = true) :
  (∀ l, aheadGo (pairL a b).more 0 ts = some l → (∀ i, i < (widthsL a).length → ¬ BadAt (widthsL a) (widthsL b) ts i) ∧ l = (List.range ((widthsL a).length + 1)).map (outR (widthsL a) (widthsL b) ts (widthsL a).length)) ∧
  (aheadGo (pairL a b).more 0 ts = none → ∃ i, i < (widthsL a).length ∧ BadAt (widthsL a) (widthsL b) ts i) := by
 obtain ⟨h1, h2, h3, h4⟩ := pairL_ok h;have la := widths_length (checkL_zero h1).2.1;have lb := widths_length (checkL_zero h2).2.1;have hl : (widthsL a).length = (widthsL b).length := by omega
 rw [h4] at hall ⊢;simp only [more_length hl] at hall ⊢;have hup : Up (widthsL a).length 0 ts := up_of (fun t ht => by have := List.all_eq_true.1 hall t ht; simp at this; omega) hinc
 have := go_iff (ts0 := ts) hl (more_small h1 h2) (ts := ts) (f := 0) (by omega) (.inl rfl) hup fun x _ => Iff.rfl
 refine ⟨fun l hll => ?_, fun hn => ?_⟩
 ·obtain ⟨q1, q2⟩ := this.1 l hll
  refine ⟨fun i hi => q1 i (by omega) hi, ?_⟩
  rw [q2];simp
 ·obtain ⟨i, _, q2, q3⟩ := this.2 hn
  exact ⟨i, q2, q3⟩
end Go.Abs.Seam
set_option linter.all false
namespace Go.Abs.Seam
set_option maxRecDepth 10000
set_option maxHeartbeats 4000000
def Mid (s : Span) : Prop := -4398046511104 ≤ s.lo ∧ s.lo ≤ 4398046511104 ∧ -4398046511104 ≤ s.hi ∧ s.hi ≤ 4398046511104
def farL (s : Span) : Int := max s.hi (0 - s.lo)
def worstL : List Span → Int := fun l => l.foldl (fun n s => max n (farL s)) 0
theorem worstL_take {l : List Span} {i : Nat} (h : i < l.length) : worstL (l.take (i + 1)) = max (worstL (l.take i)) (farL l[i]) := by
 unfold worstL;rw [List.take_succ_eq_append_getElem h, List.foldl_append];rfl
theorem far_ok (a b : Int) (h : -4398046511104 ≤ a ∧ a ≤ 4398046511104) : lim F 64 [.agg [iv a, iv b]] = some (iv (max b (0 - a)), []) := by
 refine Yr (fn:=a64) (k:=1) (res:=[.tmp 2]) rfl rfl rfl (by simp -implicitDefEqProofs(maxSteps:=9^7)(disch:=first|exact Yo rfl|omega|(simp only[go_sem]<;>omega)|fail)only[go_sem]) ?_
 try delta mvA
 try delta opA
 try delta tA
 simp -implicitDefEqProofs(maxSteps:=9^7)(disch:=first|exact Yo rfl|omega|(simp only[go_sem]<;>omega)|fail)only[go_sem]
 repeat(first|apply Ya|apply Yb|apply Yc|((first|apply Yd|apply Ye|apply Yf|apply Yg|apply Yh);simp -implicitDefEqProofs(maxSteps:=9^7)(disch:=first|exact Yo rfl|omega|(simp only[go_sem]<;>omega)|fail)only[go_sem]<;>try with_reducible rfl)|apply Yi|apply Yj|apply Yk|apply Yl|apply Ym|apply Yn)
theorem worst_ok (l : List Span) (hl : l.length < 1000000) (hm : ∀ s ∈ l, Mid s) : lim F 62 [.list 2 (l.map Span.av)] = some (iv (worstL l), []) := by
 refine Yr (fn:=a62) (k:=1) (res:=[.tmp 2]) rfl rfl rfl (by simp -implicitDefEqProofs(maxSteps:=9^7)(disch:=first|exact Yo rfl|omega|(simp only[go_sem]<;>omega)|fail)only[go_sem]) ?_
 try delta mvA
 try delta opA
 try delta tA
 simp -implicitDefEqProofs(maxSteps:=9^7)(disch:=first|exact Yo rfl|omega|(simp only[go_sem]<;>omega)|fail)only[go_sem]
 repeat(first|apply Ya|apply Yb|apply Yc|((first|apply Yd|apply Ye|apply Yf|apply Yg|apply Yh);simp -implicitDefEqProofs(maxSteps:=9^7)(disch:=first|exact Yo rfl|omega|(simp only[go_sem]<;>omega)|fail)only[go_sem]<;>try with_reducible rfl)|apply Yi|apply Yj|apply Yk|apply Yl|apply Ym|apply Yn)
 apply Yt l.length (fun i => ⟨[(2, iv (worstL (l.take i))), (5, .list 2 (l.map Span.av)), (6, iv l.length), (7, iv i)], [], [], 10000000⟩) (fun _ => True)
 ·simp -implicitDefEqProofs(maxSteps:=9^7)(disch:=first|exact Yo rfl|omega|(simp only[go_sem]<;>omega)|fail)only[go_sem, norm_eq, Ok.some]
  rfl
 ·trivial
 intro i hi _;by_cases h : i < l.length
 ·have q := hm l[i] (List.getElem_mem h)
  have hf := far_ok l[i].lo l[i].hi ⟨q.1, q.2.1⟩;repeat(first|apply Ya|apply Yb|apply Yc|((first|apply Yd|apply Ye|apply Yf|apply Yg|apply Yh);simp -implicitDefEqProofs(maxSteps:=9^7)(disch:=first|exact Yo rfl|omega|(simp only[go_sem]<;>omega)|fail)only[go_sem, h, Int.ofNat_lt, List.getElem?_map, List.getElem?_eq_getElem h, Option.map_some, Span.av.eq_1, hf]<;>try with_reducible rfl)|apply Yi|apply Yj|apply Yk|apply Yl|apply Ym|apply Yn)
  apply Ys
  ·simp -implicitDefEqProofs(maxSteps:=9^7)(disch:=first|exact Yo rfl|omega|(simp only[go_sem]<;>omega)|fail)only[go_sem, norm_eq, Ok.some]; with_reducible rfl
  refine ⟨h, ?_, trivial⟩;rw [worstL_take h]; simp [farL]
 ·obtain rfl : i = l.length := by omega
  repeat(first|apply Ya|apply Yb|apply Yc|((first|apply Yd|apply Ye|apply Yf|apply Yg|apply Yh);simp -implicitDefEqProofs(maxSteps:=9^7)(disch:=first|exact Yo rfl|omega|(simp only[go_sem]<;>omega)|fail)only[go_sem, Int.lt_irrefl, List.take_length]<;>try with_reducible rfl)|apply Yi|apply Yj|apply Yk|apply Yl|apply Ym|apply Yn)
theorem openE_zero {a b : List Part} {ts : List Int} (o : openE a b ts = 0) : (pairL a b).e = 0 ∧ (ts.all fun t => decide (1 ≤ t ∧ t ≤ (pairL a b).more.length)) = true ∧ incL ts = true ∧
  aheadGo (pairL a b).more 0 ts = some (openL a b ts) ∧ (∀ i, i < (widthsL a).length → ¬ BadAt (widthsL a) (widthsL b) ts i) ∧ openL a b ts = (List.range ((widthsL a).length + 1)).map (outR (widthsL a) (widthsL b) ts (widthsL a).length) := by
 have hE := o;unfold openE at hE;by_cases p0 : (pairL a b).e = 0
 ·simp only [p0, ne_eq, not_true_eq_false, if_false] at hE
  by_cases p1 : (ts.all fun t => decide (1 ≤ t ∧ t ≤ ((pairL a b).more.length : Int))) = false
  ·rw [if_pos p1] at hE; omega
  ·rw [if_neg p1] at hE
   by_cases p2 : incL ts = false
   ·rw [if_pos p2] at hE; omega
   ·rw [if_neg p2] at hE
    obtain ⟨m1, m2⟩ := ahead_ref (ts := ts) p0 (by simpa using p1) (by simpa using p2)
    cases hgo : aheadGo (pairL a b).more 0 ts with
    | none => rw [hgo] at hE; simp at hE
    | some l =>
     obtain ⟨k1, k2⟩ := m1 l hgo;have e2 : openL a b ts = l := by simp [openL, o, hgo]
     exact ⟨p0, by simpa using p1, by simpa using p2, by rw [e2], k1, by rw [e2]; exact k2⟩
 ·simp only [p0, ne_eq, not_false_eq_true, if_true] at hE
theorem open_len {a b : List Part} {ts : List Int} : (openL a b ts).length ≤ 201 := by
 by_cases o : openE a b ts = 0
 ·obtain ⟨h0, _, _, _, _, h5⟩ := openE_zero o
  have := (widths_small (pairL_ok h0).1).1;rw [h5]; simp; omega
 ·simp [openL, o]
theorem open_mid {a b : List Part} {ts : List Int} : ∀ s ∈ openL a b ts, Mid s := by
 intro s hs;by_cases o : openE a b ts = 0
 ·obtain ⟨h0, _, _, _, _, h5⟩ := openE_zero o
  obtain ⟨c1, c2, _, _⟩ := pairL_ok h0;have wa := wide_of (checkL_zero c1).2.1;have wb := wide_of (checkL_zero c2).2.1;have hn := (widths_small c1).1;rw [h5] at hs;obtain ⟨j, hj, rfl⟩ := List.mem_map.1 hs;have hj := List.mem_range.1 hj;have b1 := fo_bound (ts := ts) wa wb j;have b2 := ba_bound (ts := ts) (n := (widthsL a).length) wa wb ((widthsL a).length - j);unfold Mid outR;dsimp only;have : (((widthsL a).length - j : Nat) : Int) ≤ 200 := by omega
  omega
 ·simp [openL, o] at hs
theorem Least_ok (a b : List Part) (ts : List Int) (hts : ts.length ≤ 1000) : lim F 17 [.list 3 (a.map Part.av), .list 3 (b.map Part.av), .list 1 (ts.map fun n => iv n)] =
  some (.tuple [iv (worstL (openL a b ts)), iv (openE a b ts)], []) := by
 have h := open_ok a b ts hts;have hw := worst_ok (openL a b ts) (by have := open_len (a := a) (b := b) (ts := ts); omega) open_mid
 simp only [PairL.av] at h;by_cases h0 : openE a b ts = 0
 ·rw [h0] at h ⊢
  refine Yr (fn:=a17) (k:=3) (res:=[.tmp 6, .tmp 7]) rfl rfl rfl (by simp -implicitDefEqProofs(maxSteps:=9^7)(disch:=first|exact Yo rfl|omega|(simp only[go_sem]<;>omega)|fail)only[go_sem]) ?_
  try delta mvA
  try delta opA
  try delta tA
  simp -implicitDefEqProofs(maxSteps:=9^7)(disch:=first|exact Yo rfl|omega|(simp only[go_sem]<;>omega)|fail)only[go_sem]
  repeat(first|apply Ya|apply Yb|apply Yc|((first|apply Yd|apply Ye|apply Yf|apply Yg|apply Yh);simp -implicitDefEqProofs(maxSteps:=9^7)(disch:=first|exact Yo rfl|omega|(simp only[go_sem]<;>omega)|fail)only[go_sem, h, hw]<;>try with_reducible rfl)|apply Yi|apply Yj|apply Yk|apply Yl|apply Ym|apply Yn)
 ·have e : openL a b ts = [] := by simp [openL, h0]
  rw [e] at h ⊢;refine Yr (fn:=a17) (k:=3) (res:=[.tmp 6, .tmp 7]) rfl rfl rfl (by simp -implicitDefEqProofs(maxSteps:=9^7)(disch:=first|exact Yo rfl|omega|(simp only[go_sem]<;>omega)|fail)only[go_sem]) ?_
  try delta mvA
  try delta opA
  try delta tA
  simp -implicitDefEqProofs(maxSteps:=9^7)(disch:=first|exact Yo rfl|omega|(simp only[go_sem]<;>omega)|fail)only[go_sem]
  repeat(first|apply Ya|apply Yb|apply Yc|((first|apply Yd|apply Ye|apply Yf|apply Yg|apply Yh);simp -implicitDefEqProofs(maxSteps:=9^7)(disch:=first|exact Yo rfl|omega|(simp only[go_sem]<;>omega)|fail)only[go_sem, h, h0]<;>try with_reducible rfl)|apply Yi|apply Yj|apply Yk|apply Yl|apply Ym|apply Yn)
  rfl
theorem Part_ok (a b : List Part) (ts : List Int) (tol : Int) (hts : ts.length ≤ 1000) (x y e : Int)
  (h1 : openE a b ts ≠ 0 → x = 0 ∧ y = 0 ∧ e = openE a b ts)
  (h2 : openE a b ts = 0 → ¬ (0 ≤ tol ∧ tol ≤ 2000000) → x = 0 ∧ y = 0 ∧ e = 3)
  (h3 : openE a b ts = 0 → (0 ≤ tol ∧ tol ≤ 2000000) → ∀ i (h : i < (openL a b ts).length), tol < farL (openL a b ts)[i] → (∀ j (h : j < (openL a b ts).length), j < i → ¬ tol < farL (openL a b ts)[j]) → x = i ∧ y = farL (openL a b ts)[i] ∧ e = 0)
  (h4 : openE a b ts = 0 → (0 ≤ tol ∧ tol ≤ 2000000) → (∀ j (h : j < (openL a b ts).length), ¬ tol < farL (openL a b ts)[j]) → x = 0 ∧ y = 0 ∧ e = 7) :
  lim F 18 [.list 3 (a.map Part.av), .list 3 (b.map Part.av), .list 1 (ts.map fun n => iv n), iv tol] = some (.tuple [iv x, iv y, iv e], []) := by
 have h := open_ok a b ts hts;simp only [PairL.av] at h;have hlen := open_len (a := a) (b := b) (ts := ts);have hmid := open_mid (a := a) (b := b) (ts := ts);by_cases h0 : openE a b ts = 0
 ·have hw := within_ok 0 2000000 [tol] (by simp)
  simp only [List.map_cons, List.map_nil, List.all_cons, List.all_nil, Bool.and_true] at hw;by_cases c : 0 ≤ tol ∧ tol ≤ 2000000
  ·have h3 := h3 h0 c
   have h4 := h4 h0 c;rw [h0] at h;rw [decide_eq_true c] at hw;clear h1 h2;generalize openL a b ts = l at *;refine Yr (fn:=a18) (k:=4) (res:=[.tmp 8, .tmp 9, .tmp 10]) rfl rfl rfl (by simp -implicitDefEqProofs(maxSteps:=9^7)(disch:=first|exact Yo rfl|omega|(simp only[go_sem]<;>omega)|fail)only[go_sem]) ?_
   try delta mvA
   try delta opA
   try delta tA
   simp -implicitDefEqProofs(maxSteps:=9^7)(disch:=first|exact Yo rfl|omega|(simp only[go_sem]<;>omega)|fail)only[go_sem]
   repeat(first|apply Ya|apply Yb|apply Yc|((first|apply Yd|apply Ye|apply Yf|apply Yg|apply Yh);simp -implicitDefEqProofs(maxSteps:=9^7)(disch:=first|exact Yo rfl|omega|(simp only[go_sem]<;>omega)|fail)only[go_sem, h, hw]<;>try with_reducible rfl)|apply Yi|apply Yj|apply Yk|apply Yl|apply Ym|apply Yn)
   apply Yt l.length (fun i => ⟨[(3, iv tol), (32, .slice 2048 0 l.length), (33, iv l.length), (34, iv i)], [(2048, .arr 2 (l.map Span.av))], [], 10000000⟩) (fun i => ∀ j (h : j < l.length), j < i → ¬ tol < farL l[j])
   ·simp -implicitDefEqProofs(maxSteps:=9^7)(disch:=first|exact Yo rfl|omega|(simp only[go_sem]<;>omega)|fail)only[go_sem, norm_eq, Ok.some]
   ·intro j _ hj; omega
   intro i hi hn;by_cases hil : i < l.length
   ·have q := hmid l[i] (List.getElem_mem hil)
    have hf := far_ok l[i].lo l[i].hi ⟨q.1, q.2.1⟩;by_cases c2 : tol < max l[i].hi (0 - l[i].lo)
    ·obtain ⟨rfl, rfl, rfl⟩ := h3 i hil c2 hn
     repeat(first|apply Ya|apply Yb|apply Yc|((first|apply Yd|apply Ye|apply Yf|apply Yg|apply Yh);simp -implicitDefEqProofs(maxSteps:=9^7)(disch:=first|exact Yo rfl|omega|(simp only[go_sem]<;>omega)|fail)only[go_sem, hil, Int.ofNat_lt, List.getElem?_map, List.getElem?_eq_getElem hil, Option.map_some, Span.av.eq_1, hf, c2]<;>try with_reducible rfl)|apply Yi|apply Yj|apply Yk|apply Yl|apply Ym|apply Yn)
     rfl
    ·repeat(first|apply Ya|apply Yb|apply Yc|((first|apply Yd|apply Ye|apply Yf|apply Yg|apply Yh);simp -implicitDefEqProofs(maxSteps:=9^7)(disch:=first|exact Yo rfl|omega|(simp only[go_sem]<;>omega)|fail)only[go_sem, hil, Int.ofNat_lt, List.getElem?_map, List.getElem?_eq_getElem hil, Option.map_some, Span.av.eq_1, hf, c2]<;>try with_reducible rfl)|apply Yi|apply Yj|apply Yk|apply Yl|apply Ym|apply Yn)
     apply Ys
     ·simp -implicitDefEqProofs(maxSteps:=9^7)(disch:=first|exact Yo rfl|omega|(simp only[go_sem]<;>omega)|fail)only[go_sem, norm_eq, Ok.some]; with_reducible rfl
     refine ⟨hil, by simp, fun j hj hji => ?_⟩
     by_cases e : j = i
     ·subst e; exact c2
     ·exact hn j hj (by omega)
   ·obtain rfl : i = l.length := by omega
    obtain ⟨rfl, rfl, rfl⟩ := h4 fun j hj => hn j hj hj
    repeat(first|apply Ya|apply Yb|apply Yc|((first|apply Yd|apply Ye|apply Yf|apply Yg|apply Yh);simp -implicitDefEqProofs(maxSteps:=9^7)(disch:=first|exact Yo rfl|omega|(simp only[go_sem]<;>omega)|fail)only[go_sem, Int.lt_irrefl]<;>try with_reducible rfl)|apply Yi|apply Yj|apply Yk|apply Yl|apply Ym|apply Yn)
  ·obtain ⟨rfl, rfl, rfl⟩ := h2 h0 c
   rw [h0] at h;rw [decide_eq_false c] at hw;refine Yr (fn:=a18) (k:=4) (res:=[.tmp 8, .tmp 9, .tmp 10]) rfl rfl rfl (by simp -implicitDefEqProofs(maxSteps:=9^7)(disch:=first|exact Yo rfl|omega|(simp only[go_sem]<;>omega)|fail)only[go_sem]) ?_
   try delta mvA
   try delta opA
   try delta tA
   simp -implicitDefEqProofs(maxSteps:=9^7)(disch:=first|exact Yo rfl|omega|(simp only[go_sem]<;>omega)|fail)only[go_sem]
   repeat(first|apply Ya|apply Yb|apply Yc|((first|apply Yd|apply Ye|apply Yf|apply Yg|apply Yh);simp -implicitDefEqProofs(maxSteps:=9^7)(disch:=first|exact Yo rfl|omega|(simp only[go_sem]<;>omega)|fail)only[go_sem, h, hw]<;>try with_reducible rfl)|apply Yi|apply Yj|apply Yk|apply Yl|apply Ym|apply Yn)
 ·obtain ⟨rfl, rfl, rfl⟩ := h1 h0
  have e : openL a b ts = [] := by simp [openL, h0]
  rw [e] at h;refine Yr (fn:=a18) (k:=4) (res:=[.tmp 8, .tmp 9, .tmp 10]) rfl rfl rfl (by simp -implicitDefEqProofs(maxSteps:=9^7)(disch:=first|exact Yo rfl|omega|(simp only[go_sem]<;>omega)|fail)only[go_sem]) ?_
  try delta mvA
  try delta opA
  try delta tA
  simp -implicitDefEqProofs(maxSteps:=9^7)(disch:=first|exact Yo rfl|omega|(simp only[go_sem]<;>omega)|fail)only[go_sem]
  repeat(first|apply Ya|apply Yb|apply Yc|((first|apply Yd|apply Ye|apply Yf|apply Yg|apply Yh);simp -implicitDefEqProofs(maxSteps:=9^7)(disch:=first|exact Yo rfl|omega|(simp only[go_sem]<;>omega)|fail)only[go_sem, h, h0]<;>try with_reducible rfl)|apply Yi|apply Yj|apply Yk|apply Yl|apply Ym|apply Yn)
end Go.Abs.Seam
set_option linter.all false
namespace Go.Abs.Seam
set_option maxRecDepth 10000
set_option maxHeartbeats 4000000
def atI (l : List Int) (i : Nat) : Int := l[i]?.getD 0
theorem atI_eq {l : List Int} {i : Nat} (h : i < l.length) : l[i]? = some (atI l i) := by simp [atI, h]
def ahT (tA tB : List Int) : Nat → Int
 | 0 => 0
 | i + 1 => ahT tA tB i + atI tA i - atI tB i
abbrev InW (w : Span) (n : Int) : Prop := w.lo ≤ n ∧ n ≤ w.hi
abbrev FitT (wa wb : List Span) (tA tB : List Int) (i : Nat) : Prop := InW (at' wa i) (atI tA i) ∧ InW (at' wb i) (atI tB i)
structure TruthA where
 a : List Int
 b : List Int
def TruthA.av (t : TruthA) : AV := .agg [.list 1 (t.a.map fun n => iv n), .list 1 (t.b.map fun n => iv n)]
structure RunRes (wa wb : List Span) (ts : List Int) (t : TruthA) (n : Nat) (res : AV) : Prop where
 h4 : ¬ (t.a.length = n ∧ t.b.length = n) → res = .tuple [.own 1 [], iv 4]
 h3 : t.a.length = n → t.b.length = n → ∀ i, i < n → ¬ FitT wa wb t.a t.b i → res = .tuple [.own 1 [], iv 3]
 h9 : t.a.length = n → t.b.length = n → (∀ i, i < n → FitT wa wb t.a t.b i) → ∀ i : Nat, i ≤ n → (i : Int) ∈ ts → ahT t.a t.b i ≠ 0 → res = .tuple [.own 1 [], iv 9]
 h0 : t.a.length = n → t.b.length = n → (∀ i, i < n → FitT wa wb t.a t.b i) → (∀ i : Nat, i ≤ n → (i : Int) ∈ ts → ahT t.a t.b i = 0) → res = .tuple [.own 1 (((List.range (n + 1)).map (ahT t.a t.b)).map fun n => iv n), iv 0]
end Go.Abs.Seam
set_option linter.all false
namespace Go.Abs.Seam
set_option maxRecDepth 10000
set_option maxHeartbeats 4000000
end Go.Abs.Seam
set_option linter.all false
namespace Go.Abs.Seam
set_option maxRecDepth 10000
set_option maxHeartbeats 1000000
def fD (m : List Span) (q : Nat) (g : Int) (i : Nat) : Int := max (at' m i).lo (g - (dS m (i + 1) q).hi)
def gN (m : List Span) (p q : Nat) (g : Int) : Nat → Int
 | 0 => g
 | j + 1 => gN m p q g j - fD m q (gN m p q g j) (p + j)
def fA (wa wb m : List Span) (p q : Nat) (g : Int) (j : Nat) : Int := max (at' wa (p + j)).lo ((at' wb (p + j)).lo + fD m q (gN m p q g j) (p + j))
def fB (wa wb m : List Span) (p q : Nat) (g : Int) (j : Nat) : Int := fA wa wb m p q g j - fD m q (gN m p q g j) (p + j)
end Go.Abs.Seam
set_option linter.all false
namespace Go.Abs.Seam
set_option maxRecDepth 10000
set_option maxHeartbeats 4000000
def kvM (edge ahead : Int) (ts : List Int) : List (Int × AV) := ts.foldl (fun kv t => kvSet t (iv 0) kv) [(edge, iv ahead)]
section
variable {wa wb : List Span} {ts : List Int} {n : Nat} (hla : wa.length = n) (hlb : wb.length = n)
include hla hlb
structure ShowInv (wa wb : List Span) (ts : List Int) (edge : Nat) (ahead : Int) (i fr : Nat) (was : Int) (A B : List Int) : Prop where
 lt : fr < i
 la : A.length = fr
 lb : B.length = fr
 known : fr = 0 ∨ (fr : Int) ∈ ts ∨ fr = edge
 between : ∀ x, fr < x → x < i → ¬ (x : Int) ∈ ts ∧ x ≠ edge
 fit : ∀ j, j < fr → FitT wa wb A B j
 now : ahT A B fr = was
 wasM : (fr = 0 ∨ (fr : Int) ∈ ts) → was = 0
 wasE : fr = edge → was = ahead
 marks : ∀ x : Nat, x ≤ fr → (x : Int) ∈ ts → ahT A B x = 0
 edge : edge ≤ fr → ahT A B edge = ahead
end
structure TruthOk (wa wb : List Span) (ts : List Int) (n edge : Nat) (ahead : Int) (t : TruthA) : Prop where
 la : t.a.length = n
 lb : t.b.length = n
 fit : ∀ i, i < n → FitT wa wb t.a t.b i
 marks : ∀ i : Nat, i ≤ n → (i : Int) ∈ ts → ahT t.a t.b i = 0
 edge : ahT t.a t.b edge = ahead
end Go.Abs.Seam
set_option linter.all false
namespace Go.Abs.Seam
set_option maxRecDepth 10000
set_option maxHeartbeats 1000000
structure PairOk (a b : List Part) (ts : List Int) (wa wb : List Span) (n : Nat) : Prop where
 ha : wa = widthsL a
 hb : wb = widthsL b
 la : wa.length = n
 lb : wb.length = n
 n200 : n ≤ 200
 wda : Wide wa
 wdb : Wide wb
 oa : ∀ i, i < n → (at' wa i).lo ≤ (at' wa i).hi
 ob : ∀ i, i < n → (at' wb i).lo ≤ (at' wb i).hi
 om : ∀ i, (at' (moreL wa wb) i).lo ≤ (at' (moreL wa wb) i).hi
 sm : Small (moreL wa wb)
 lm : (moreL wa wb).length = n
 pa : pairL a b = ⟨wa, wb, moreL wa wb, 0⟩
 ca : checkL a = 0
 cb : checkL b = 0
 ab : picksL a = picksL b
theorem wid_ord {l : List Part} (hok : ∀ p ∈ l, p.Ok) {i : Nat} (h : i < (widthsL l).length) : (at' (widthsL l) i).lo ≤ (at' (widthsL l) i).hi := by
 have := widths_mem hok _ (List.getElem_mem h);rw [at'_get h]; exact this.2.1
theorem pairOk {a b : List Part} {ts : List Int} (p0 : (pairL a b).e = 0) : PairOk a b ts (widthsL a) (widthsL b) (widthsL a).length := by
 obtain ⟨c1, c2, c3, c4⟩ := pairL_ok p0;have hn := (widths_small c1).1;have ok1 := (checkL_zero c1).2.1;have ok2 := (checkL_zero c2).2.1;have hlen : (widthsL b).length = (widthsL a).length := by
  have := widths_length ok1;have := widths_length ok2;omega
 have hml2 : (moreL (widthsL a) (widthsL b)).length = (widthsL a).length := by simp [moreL]; omega
 refine ⟨rfl, rfl, rfl, hlen, hn, wide_of ok1, wide_of ok2, fun i hi => wid_ord ok1 hi, fun i hi => wid_ord ok2 (by omega), fun i => ?_, more_small c1 c2, hml2, c4, c1, c2, c3⟩
 by_cases h : i < (widthsL a).length
 ·have h1 := more_at hlen.symm h
  have e : at' (moreL (widthsL a) (widthsL b)) i = ⟨(at' (widthsL a) i).lo - (at' (widthsL b) i).hi, (at' (widthsL a) i).hi - (at' (widthsL b) i).lo⟩ := by
   unfold at' at h1 ⊢; rw [h1]; rfl
  have q1 := wid_ord ok1 h;have q2 := wid_ord ok2 (by omega : i < (widthsL b).length)
  rw [e]; dsimp only; omega
 ·simp [at', List.getElem?_eq_none (show (moreL (widthsL a) (widthsL b)).length ≤ i by omega)]
theorem take_map_all {α β : Type} {n : Nat} (f : α → β) {l : List α} (h : l.length = n) : List.take n (List.map f l) = List.map f l := List.take_of_length_le (by simp; omega)
end Go.Abs.Seam
set_option linter.all false
namespace Go.Abs.Seam
set_option maxRecDepth 10000
set_option maxHeartbeats 1000000
@[go_sem] theorem take_all {α : Type} {k : Nat} {l : List α} (h : l.length ≤ k) : l.take k = l := List.take_of_length_le h
def segB (m : List Span) (tol : Int) (p q : Nat) : Bool := decide ((pre (seg m p q) (q - p)).Has0 ∧ worstL (strL (seg m p q)) ≤ tol)
def endB (m : List Span) (tol : Int) (p : Nat) : Bool := decide (worstL (sumsL (m.drop p)) ≤ tol)
theorem worst_le {tol : Int} (h0 : 0 ≤ tol) : ∀ {l : List Span}, worstL l ≤ tol ↔ ∀ s ∈ l, farL s ≤ tol := by
 have key : ∀ (l : List Span) (n : Int), l.foldl (fun n s => max n (farL s)) n ≤ tol ↔ n ≤ tol ∧ ∀ s ∈ l, farL s ≤ tol := by
  intro l;induction l with
  | nil => simp
  | cons a l ih =>
   intro n;rw [List.foldl_cons, ih];simp only [List.mem_cons, forall_eq_or_imp];constructor
   ·rintro ⟨h1, h2⟩; exact ⟨by omega, by omega, h2⟩
   ·rintro ⟨h1, h2, h3⟩; exact ⟨by omega, h3⟩
 intro l;unfold worstL;rw [key];exact ⟨fun h => h.2, fun h => ⟨h0, h⟩⟩
def matchGo (m : List Span) (tol : Int) (f : Nat) : List Int → Bool
 | [] => endB m tol f
 | t :: ts => segB m tol f t.toNat && matchGo m tol t.toNat ts
def extL (m : List Span) (tol : Int) (n : Nat) : Nat → Nat → Option (List Int)
 | 0, f => if endB m tol f then some [] else none
 | k + 1, f => (List.range' (f + 1) (n - f)).findSome? fun t => if segB m tol f t then (extL m tol n k t).map (fun l => (t : Int) :: l) else none
section
variable {m : List Span} {tol : Int} {n : Nat}
theorem ext_none {k f : Nat} : extL m tol n (k + 1) f = none ↔ ∀ t, f < t → t ≤ n → segB m tol f t = true → extL m tol n k t = none := by
 simp only [extL, List.findSome?_eq_none_iff, List.mem_range'_1];constructor
 ·intro h t h1 h2 h3
  have := h t ⟨by omega, by omega⟩
  rw [if_pos h3] at this;simpa using this
 ·rintro h t ⟨h1, h2⟩
  by_cases c : segB m tol f t = true
  ·rw [if_pos c, h t (by omega) (by omega) c]; rfl
  ·rw [if_neg c]
theorem ext_some {k f t : Nat} {l : List Int} (h1 : f < t) (h2 : t ≤ n) (h3 : segB m tol f t = true) (h4 : extL m tol n k t = some l) (h5 : ∀ t', f < t' → t' < t → segB m tol f t' = true → extL m tol n k t' = none) :
  extL m tol n (k + 1) f = some ((t : Int) :: l) := by
 simp only [extL];rw [show List.range' (f + 1) (n - f) = List.range' (f + 1) (t - f - 1) ++ t :: List.range' (t + 1) (n - t) by
  rw [show n - f = (t - f - 1) + (n - t + 1) by omega, ← List.range'_append_1, List.range'_succ]
  congr 2 <;> congr 1 <;> omega]
 rw [List.findSome?_append];have : (List.range' (f + 1) (t - f - 1)).findSome? (fun t => if segB m tol f t then (extL m tol n k t).map (fun l => (t : Int) :: l) else none) = none := by
  rw [List.findSome?_eq_none_iff];intro t' ht';rw [List.mem_range'_1] at ht';by_cases c : segB m tol f t' = true
  ·rw [if_pos c, h5 t' (by omega) (by omega) c]; rfl
  ·rw [if_neg c]
 rw [this];simp [h3, h4]
theorem ext_inv {k f : Nat} {l : List Int} (h : extL m tol n (k + 1) f = some l) : ∃ (t : Nat) (r : List Int), l = (t : Int) :: r ∧ f < t ∧ t ≤ n ∧ segB m tol f t = true ∧ extL m tol n k t = some r ∧ ∀ t', f < t' → t' < t → segB m tol f t' = true → extL m tol n k t' = none := by
 by_cases hex : ∃ t, f < t ∧ t ≤ n ∧ segB m tol f t = true ∧ extL m tol n k t ≠ none
 ·have key : ∀ N t, t ≤ N → (f < t ∧ t ≤ n ∧ segB m tol f t = true ∧ extL m tol n k t ≠ none) → ∃ t, (f < t ∧ t ≤ n ∧ segB m tol f t = true ∧ extL m tol n k t ≠ none) ∧ ∀ t', f < t' → t' < t → segB m tol f t' = true → extL m tol n k t' = none := by
   intro N;induction N with
   | zero => intro t h1 h2; omega
   | succ N ih =>
    intro t h1 h2;by_cases c : ∃ t', t' ≤ N ∧ (f < t' ∧ t' ≤ n ∧ segB m tol f t' = true ∧ extL m tol n k t' ≠ none)
    ·obtain ⟨t', h3, h4⟩ := c; exact ih t' h3 h4
    ·refine ⟨t, h2, fun t' h3 h4 h5 => ?_⟩
     apply Classical.byContradiction;intro h6;exact c ⟨t', by omega, h3, by omega, h5, h6⟩
  obtain ⟨t0, h0⟩ := hex;obtain ⟨t, ⟨h1, h2, h3, h4⟩, h5⟩ := key t0 t0 (Nat.le_refl _) h0;cases hr : extL m tol n k t with
  | none => exact absurd hr h4
  | some r =>
   have := ext_some h1 h2 h3 hr h5;rw [h] at this;exact ⟨t, r, Option.some.inj this, h1, h2, h3, hr, h5⟩
 ·have : extL m tol n (k + 1) f = none := ext_none.2 fun t h1 h2 h3 => by
   apply Classical.byContradiction;intro h4; exact hex ⟨t, h1, h2, h3, h4⟩
  rw [this] at h; cases h
theorem ext_bound : ∀ {k f : Nat} {l : List Int}, f ≤ n → extL m tol n k f = some l → f + k ≤ n ∧ l.length = k
 | 0, f, l, hf, h => by
  simp only [extL] at h;split at h
  ·cases h; exact ⟨hf, rfl⟩
  ·cases h
 | k + 1, f, l, hf, h => by
  obtain ⟨t, r, rfl, h1, h2, _, h4, _⟩ := ext_inv h;have := ext_bound (by omega) h4
  simp; omega
def chainB (m : List Span) (tol : Int) (f : Nat) : List Int → Bool
 | [] => true
 | t :: ts => segB m tol f t.toNat && chainB m tol t.toNat ts
def lastOf (f : Nat) : List Int → Nat
 | [] => f
 | t :: ts => lastOf t.toNat ts
def tryO (m : List Span) (tol : Int) (n k : Nat) (ps : List Int) : Option (List Int) := if chainB m tol 0 ps then (extL m tol n k (lastOf 0 ps)).map (ps ++ ·) else none
end
end Go.Abs.Seam
set_option linter.all false
namespace Go.Abs.Seam
set_option maxRecDepth 10000
set_option maxHeartbeats 1000000
def marksO (m : List Span) (tol : Int) (n : Nat) : Option (List Int) := (List.range (n + 1)).findSome? fun k => extL m tol n k 0
theorem marks_some {m : List Span} {tol : Int} {n k : Nat} {l : List Int} (hk : k ≤ n) (h : extL m tol n k 0 = some l) (h2 : ∀ k' < k, extL m tol n k' 0 = none) : marksO m tol n = some l := by
 unfold marksO;rw [show n + 1 = k + (1 + (n - k)) by omega, List.range_add, List.findSome?_append]
 have : (List.range k).findSome? (fun k => extL m tol n k 0) = none := by
  rw [List.findSome?_eq_none_iff];intro x hx; exact h2 x (List.mem_range.1 hx)
 rw [this, Nat.add_comm 1, List.range_succ_eq_map];simp [h]
theorem marks_none {m : List Span} {tol : Int} {n : Nat} (h : ∀ k, extL m tol n k 0 = none) : marksO m tol n = none := by
 unfold marksO;rw [List.findSome?_eq_none_iff];intro x _; exact h x
end Go.Abs.Seam
set_option linter.all false
namespace Go.Abs.Seam
set_option maxRecDepth 10000
set_option maxHeartbeats 2000000
def Good (m : List Span) (tol : Int) (n f : Nat) (k nx : Int) : Prop :=
 (k = -1 ∧ ∀ q, extL m tol n q f = none) ∨ (∃ (q : Nat) (l : List Int), k = q ∧ (∀ q' < q, extL m tol n q' f = none) ∧ extL m tol n q f = some l ∧ nx = l.headD 0)
section
variable {m : List Span} {tol : Int} {n : Nat}
theorem good_bound {f : Nat} {k nx : Int} (hf : f ≤ n) (h : Good m tol n f k nx) : k = -1 ∨ (0 ≤ k ∧ k ≤ n) := by
 rcases h with ⟨h, _⟩ | ⟨q, l, rfl, _, h, _⟩
 ·exact .inl h
 ·have := ext_bound hf h; right; omega
def Inn (m : List Span) (tol : Int) (M : Nat → Int) (f to : Nat) (mn nx : Int) : Prop :=
 (mn = -1 ∧ ∀ t, f < t → t < to → segB m tol f t = true → M t = -1) ∨
 (∃ t0, f < t0 ∧ t0 < to ∧ segB m tol f t0 = true ∧ 0 ≤ M t0 ∧ mn = M t0 + 1 ∧ nx = t0 ∧ (∀ t, f < t → t < to → segB m tol f t = true → 0 ≤ M t → M t0 ≤ M t) ∧ (∀ t, f < t → t < t0 → segB m tol f t = true → 0 ≤ M t → M t0 < M t))
theorem inn_skip {M : Nat → Int} {f to : Nat} {mn nx : Int} (h : Inn m tol M f to mn nx) (hs : segB m tol f to = true → (M to = -1 ∨ (0 ≤ mn ∧ mn ≤ M to + 1))) : Inn m tol M f (to + 1) mn nx := by
 rcases h with ⟨h1, h2⟩ | ⟨t0, h1, h2, h3, h4, h5, h6, h7, h8⟩
 ·refine .inl ⟨h1, fun t q1 q2 q3 => ?_⟩
  by_cases e : t = to
  ·subst e; rcases hs q3 with h | h <;> omega
  ·exact h2 t q1 (by omega) q3
 ·refine .inr ⟨t0, h1, by omega, h3, h4, h5, h6, fun t q1 q2 q3 q4 => ?_, h8⟩
  by_cases e : t = to
  ·subst e; rcases hs q3 with h | h <;> omega
  ·exact h7 t q1 (by omega) q3 q4
theorem inn_take {M : Nat → Int} {f to : Nat} {mn nx : Int} (h : Inn m tol M f to mn nx) (hf : f < to) (hs : segB m tol f to = true) (hM : 0 ≤ M to) (hc : ¬ (0 ≤ mn ∧ mn ≤ M to + 1)) : Inn m tol M f (to + 1) (M to + 1) to := by
 refine .inr ⟨to, hf, by omega, hs, hM, rfl, rfl, fun t q1 q2 q3 q4 => ?_, fun t q1 q2 q3 q4 => ?_⟩
 all_goals
  rcases h with ⟨h1, h2⟩ | ⟨t0, h1, h2, h3, h4, h5, h6, h7, h8⟩
  ·by_cases e : t = to
   ·subst e; omega
   ·have := h2 t q1 (by omega) q3; omega
  ·by_cases e : t = to
   ·subst e; omega
   ·have := h7 t q1 (by omega) q3 q4; omega
theorem inn_good {M N : Nat → Int} {f : Nat} {mn nx : Int} (h : Inn m tol M f (n + 1) mn nx) (he : endB m tol f = false) (hg : ∀ t, f < t → t ≤ n → Good m tol n t (M t) (N t)) : Good m tol n f mn nx := by
 have h0 : extL m tol n 0 f = none := by simp [extL, he]
 rcases h with ⟨h1, h2⟩ | ⟨t0, h1, h2, h3, h4, h5, h6, h7, h8⟩
 ·refine .inl ⟨h1, fun q => ?_⟩
  cases q with
  | zero => exact h0
  | succ q =>
   rw [ext_none];intro t q1 q2 q3;have := h2 t q1 (by omega) q3
   rcases hg t q1 q2 with ⟨_, g⟩ | ⟨q', l, g, _⟩
   ·exact g q
   ·omega
 ·rcases hg t0 h1 (by omega) with ⟨g, _⟩ | ⟨q0, l, g1, g2, g3, _⟩
  ·omega
  ·refine .inr ⟨q0 + 1, (t0 : Int) :: l, by omega, fun q' hq' => ?_, ?_, by rw [h6]; rfl⟩
   ·cases q' with
    | zero => exact h0
    | succ q' =>
     rw [ext_none];intro t q1 q2 q3;rcases hg t q1 q2 with ⟨_, g⟩ | ⟨q1', l', g, g', _⟩
     ·exact g q'
     ·have := h7 t q1 (by omega) q3 (by omega)
      exact g' q' (by omega)
   ·refine ext_some h1 (by omega) h3 g3 fun t q1 q2 q3 => ?_
    rcases hg t q1 (by omega) with ⟨_, g⟩ | ⟨q1', l', g, g', _⟩
    ·exact g q0
    ·have := h8 t q1 q2 q3 (by omega)
     exact g' q0 (by omega)
end
theorem atI_get {l : List Int} {i : Nat} (h : i < l.length) : l[i]? = some (atI l i) := atI_eq h
theorem set_at {l : List Int} {i : Nat} (h : i < l.length) (x : Int) : (l.set i x)[i]? = some x := by rw [List.getElem?_set_self h]
theorem set_ne {l : List Int} {i j : Nat} (h : j < l.length) (e : j ≠ i) (x : Int) : (l.set i x)[j]? = some (atI l j) := by rw [List.getElem?_set_ne (fun h => e h.symm)]; exact atI_eq h
theorem atI_set {l : List Int} {i j : Nat} (h : i < l.length) (x : Int) : atI (l.set i x) j = if j = i then x else atI l j := by
 unfold atI;by_cases e : j = i
 ·subst e; rw [List.getElem?_set_self h]; simp
 ·rw [List.getElem?_set_ne (fun h => e h.symm), if_neg e]
theorem set_same {l : List Int} {i : Nat} (h : i < l.length) : l.set i (atI l i) = l := by
 apply List.ext_getElem? ; intro j
 by_cases e : j = i
 ·subst e; rw [List.getElem?_set_self h, atI_eq h]
 ·rw [List.getElem?_set_ne (fun h => e h.symm)]
theorem Marks_ok (a b : List Part) (tol : Int) (p0 : (pairL a b).e = 0) (h0 : 0 ≤ tol) (h1 : tol ≤ 2000000) :
  lim F 19 [.list 3 (a.map Part.av), .list 3 (b.map Part.av), iv tol] = some (match marksO (moreL (widthsL a) (widthsL b)) tol (widthsL a).length with
   | some l => .tuple [.own 1 (l.map fun n => iv n), iv 0]
   | none => .tuple [.own 1 [], iv 7], []) := by
 have hq := pairOk (ts := []) p0;have hn := hq.n200;have hnp := newPair_ok a b;have hw := within_ok 0 2000000 [tol] (by simp)
 simp only [List.map_cons, List.map_nil, List.all_cons, List.all_nil, Bool.and_true] at hw;rw [decide_eq_true ⟨h0, h1⟩] at hw;rw [hq.pa] at hnp;simp only [PairL.av] at hnp;have hms := fun k l h h1 h2 => marks_some (m := moreL (widthsL a) (widthsL b)) (tol := tol) (n := (widthsL a).length) (k := k) (l := l) h h1 h2
 have hmn := fun h => marks_none (m := moreL (widthsL a) (widthsL b)) (tol := tol) (n := (widthsL a).length) h
 have sm := hq.sm;have lm := hq.lm;have la := hq.la;have lb := hq.lb;have hen := fun f h => end_ok (.list 2 ((widthsL a).map Span.av)) (.list 2 ((widthsL b).map Span.av)) (moreL (widthsL a) (widthsL b)) f sm h ⟨_, _, rfl⟩ ⟨_, _, rfl⟩
 have hst := fun p q h1 h2 => stretch_ok (.list 2 ((widthsL a).map Span.av)) (.list 2 ((widthsL b).map Span.av)) (moreL (widthsL a) (widthsL b)) p q sm h1 h2 ⟨_, _, rfl⟩ ⟨_, _, rfl⟩
 clear hq la;generalize hwa : widthsL a = wa at *;generalize widthsL b = wb at *;generalize moreL wa wb = m at *;generalize hnn : wa.length = n at *;have hwe : ∀ f, f ≤ n → lim F 62 [.list 2 ((sumsL (m.drop f)).map Span.av)] = some (iv (worstL (sumsL (m.drop f))), []) := by
  intro f hf;have s2 : Small (m.drop f) := sm.sub (List.drop_sublist _ _);refine worst_ok _ (by simp [sumsL]; omega) fun s hs => ?_
  obtain ⟨j, hj, rfl⟩ := List.mem_map.1 hs;have hj := List.mem_range.1 hj;have := s2.pre j (by omega)
  have := s2.1;unfold Mid; omega
 have hws : ∀ p q, p ≤ q → q ≤ n → lim F 62 [.list 2 ((strL (seg m p q)).map Span.av)] = some (iv (worstL (strL (seg m p q))), []) := by
  intro p q hp hq;have s2 : Small (seg m p q) := sm.sub ((List.take_sublist _ _).trans (List.drop_sublist _ _));have hl : (seg m p q).length = q - p := seg_length hp (by omega)
  refine worst_ok _ (by simp [strL]; omega) fun s hs => ?_
  obtain ⟨j, hj, rfl⟩ := List.mem_map.1 hs;have hj := List.mem_range.1 hj;have := s2.pre j (by omega)
  have := s2.pre (seg m p q).length (by omega)
  unfold Mid strE; dsimp only; omega
 have hst : ∀ p q, p ≤ q → q ≤ n → lim F 67 [.agg [.list 2 (wa.map Span.av), .list 2 (wb.map Span.av), .list 2 (m.map Span.av)], iv p, iv q] = some (.tuple [.own 2 ((strL (seg m p q)).map Span.av), .bool (decide (pre (seg m p q) (q - p)).Has0)], []) :=
  fun p q h1 h2 => hst p q h1 (by omega)
 have hen : ∀ f, f ≤ n → lim F 66 [.agg [.list 2 (wa.map Span.av), .list 2 (wb.map Span.av), .list 2 (m.map Span.av)], iv f] = some (.own 2 ((sumsL (m.drop f)).map Span.av), []) :=
  fun f hf => hen f (by omega)
 have hsl : ∀ f, f ≤ n → (sumsL (m.drop f)).length = n - f + 1 := by intro f hf; simp [sumsL]; omega
 have htl : ∀ p q, p ≤ q → q ≤ n → (strL (seg m p q)).length = q - p + 1 := by intro p q h1 h2; simp [strL, seg_length h1 (by omega : q ≤ m.length)]
 clear sm hwa;refine Yr (fn:=a19) (k:=3) (res:=[.tmp 6, .tmp 7]) rfl rfl rfl (by simp -implicitDefEqProofs(maxSteps:=9^7)(disch:=first|exact Yo rfl|omega|(simp only[go_sem]<;>omega)|fail)only[go_sem]) ?_
 try delta mvA
 try delta opA
 try delta tA
 simp -implicitDefEqProofs(maxSteps:=9^7)(disch:=first|exact Yo rfl|omega|(simp only[go_sem]<;>omega)|fail)only[go_sem]
 repeat(first|apply Ya|apply Yb|apply Yc|((first|apply Yd|apply Ye|apply Yf|apply Yg|apply Yh);simp -implicitDefEqProofs(maxSteps:=9^7)(disch:=first|exact Yo rfl|omega|(simp only[go_sem]<;>omega)|fail)only[go_sem, hnp, hw, lm, hnn, lb]<;>try with_reducible rfl)|apply Yi|apply Yj|apply Yk|apply Yl|apply Ym|apply Yn)
 apply Yu (n + 1) (fun i fr => ∃ L1 L2 : List Int, (fr = ⟨[(2, iv tol), (6, .slice 384 0 0), (8, .ptr 512 0 0), (9, iv n), (10, .slice 640 0 (n + 1)), (11, .slice 704 0 (n + 1)), (12, iv ((n : Int) - i))],
   [(384, .arr 1 []), (512, .box [.slice 308192 0 n, .slice 308193 0 n, .slice 308194 0 n]), (640, .arr 1 (L1.map fun n => iv n)), (704, .arr 1 (L2.map fun n => iv n)), (308192, .arr 2 (wa.map Span.av)), (308193, .arr 2 (wb.map Span.av)), (308194, .arr 2 (m.map Span.av))], [], 10000000⟩) ∧
   L1.length = n + 1 ∧ L2.length = n + 1 ∧ (∀ j, n < j + i → j ≤ n → Good m tol n j (atI L1 j) (atI L2 j)) ∧ (∀ j, j + i ≤ n → atI L1 j = 0 ∧ atI L2 j = 0))
 ·simp -implicitDefEqProofs(maxSteps:=9^7)(disch:=first|exact Yo rfl|omega|(simp only[go_sem]<;>omega)|fail)only[go_sem, norm_eq, Ok.some, show ((n : Int) + 1).toNat = n + 1 by omega]
  refine ⟨List.replicate (n + 1) 0, List.replicate (n + 1) 0, (by simp [hnn, lb, lm]), by simp, by simp, fun j h1 h2 => by omega, fun j hj => ?_⟩
  have : j < n + 1 := by omega
  simp [atI, List.getElem?_replicate, this]
 rintro i fr hi ⟨L1, L2, hfr, l1, l2, hgood, hzero⟩;by_cases hin : i ≤ n
 ·obtain ⟨f, hf⟩ : ∃ f : Nat, (n : Int) - i = f := ⟨n - i, by omega⟩
  rw [hf] at hfr;obtain ⟨z1, z2⟩ := hzero f (by omega)
  have hfn : f < n + 1 := by omega
  have hen' := hen f (by omega)
  have hwe' := hwe f (by omega)
  have hsl' := hsl f (by omega)
  have hpos : (0 : Int) ≤ f := by omega
  by_cases c : worstL (sumsL (m.drop f)) ≤ tol
  ·have hG : ∀ j, n < j + (i + 1) → j ≤ n → Good m tol n j (atI L1 j) (atI L2 j) := by
    intro j hj hjn;by_cases e : j = f
    ·subst e; rw [z1, z2]
     exact .inr ⟨0, [], rfl, fun q' h => by omega, by simp [extL, endB, c], rfl⟩
    ·exact hgood j (by omega) hjn
   clear hst hen hwe hws hms hmn htl hsl hgood;all_goals
    subst hfr;repeat(first|apply Ya|apply Yb|apply Yc|((first|apply Yd|apply Ye|apply Yf|apply Yg|apply Yh);simp -implicitDefEqProofs(maxSteps:=9^7)(disch:=first|exact Yo rfl|omega|(simp only[go_sem]<;>omega)|fail)only[go_sem, hpos, hen', hwe', c]<;>try with_reducible rfl)|apply Yi|apply Yj|apply Yk|apply Yl|apply Ym|apply Yn)
    apply Ys
    ·simp -implicitDefEqProofs(maxSteps:=9^7)(disch:=first|exact Yo rfl|omega|(simp only[go_sem]<;>omega)|fail)only[go_sem, norm_eq, Ok.some]; with_reducible rfl
    refine ⟨by omega, L1, L2, ?_, l1, l2, hG, fun j hj => hzero j (by omega)⟩
    simp; omega
  ·have hE : endB m tol f = false := by simp [endB, c]
   have hinn : ∀ mn nx, Inn m tol (atI L1) f (n + 1) mn nx → Good m tol n f mn nx := fun mn nx h => inn_good h hE fun t h1 h2 => hgood t (by omega) h2
   have hM : ∀ t, f < t → t ≤ n → atI L1 t = -1 ∨ (0 ≤ atI L1 t ∧ atI L1 t ≤ n) := fun t h1 h2 => good_bound h2 (hgood t (by omega) h2)
   have e0 : L2.set f 0 = L2 := by
    have := set_same (l := L2) (i := f) (by omega)
    rw [z2] at this; exact this
   have hms1 : ∀ x, (L1.map fun n => iv n).set f (iv x) = (L1.set f x).map fun n => iv n := fun x => by rw [List.map_set]
   clear hen hwe hmn hms hsl;all_goals
    subst hfr;repeat(first|apply Ya|apply Yb|apply Yc|((first|apply Yd|apply Ye|apply Yf|apply Yg|apply Yh);simp -implicitDefEqProofs(maxSteps:=9^7)(disch:=first|exact Yo rfl|omega|(simp only[go_sem]<;>omega)|fail)only[go_sem, hpos, hen', hwe', c, List.getElem?_map, atI_get (show f < L1.length by omega), Option.map_some, hms1]<;>try with_reducible rfl)|apply Yi|apply Yj|apply Yk|apply Yl|apply Ym|apply Yn)
    apply Yu (n - f) (fun k fr => ∃ mn nx, fr = ⟨[(2, iv tol), (6, .slice 384 0 0), (8, .ptr 512 0 0), (9, iv n), (10, .slice 640 0 (n + 1)), (11, .slice 704 0 (n + 1)), (12, iv f), (13, iv (f + 1 + k : Nat))],
     [(384, .arr 1 []), (512, .box [.slice 308192 0 n, .slice 308193 0 n, .slice 308194 0 n]), (640, .arr 1 ((L1.set f mn).map fun n => iv n)), (704, .arr 1 ((L2.set f nx).map fun n => iv n)), (308192, .arr 2 (wa.map Span.av)), (308193, .arr 2 (wb.map Span.av)), (308194, .arr 2 (m.map Span.av))], [], 10000000⟩ ∧ Inn m tol (atI L1) f (f + 1 + k) mn nx)
    ·simp -implicitDefEqProofs(maxSteps:=9^7)(disch:=first|exact Yo rfl|omega|(simp only[go_sem]<;>omega)|fail)only[go_sem, norm_eq, Ok.some]
     exact ⟨-1, 0, by simp [e0], .inl ⟨rfl, fun t h1 h2 => by omega⟩⟩
    rintro k fr hk ⟨mn, nx, rfl, inn⟩;by_cases hkn : f + 1 + k ≤ n
    ·have hto : ((f + 1 + k : Nat) : Int) ≤ n := by omega
     have x1 : (L1.set f mn)[f + 1 + k]? = some (atI L1 (f + 1 + k)) := set_ne (by omega) (by omega) mn
     have x2 : (L1.set f mn)[f]? = some mn := set_at (by omega) mn
     have x3 : (L2.set f nx)[f]? = some nx := set_at (by omega) nx
     have hMt := hM (f + 1 + k) (by omega) hkn
     have hst' := hst f (f + 1 + k) (by omega) hkn
     have hws' := hws f (f + 1 + k) (by omega) hkn
     have htl' := htl f (f + 1 + k) (by omega) hkn
     have hsk := fun h => inn_skip inn h
     have htk := fun h1 h2 h3 => inn_take inn (by omega) h1 h2 h3
     have hsb : segB m tol f (f + 1 + k) = decide ((pre (seg m f (f + 1 + k)) (f + 1 + k - f)).Has0 ∧ worstL (strL (seg m f (f + 1 + k))) ≤ tol) := rfl;have hmnb : mn ≤ 100000000 := by
      rcases inn with ⟨h, _⟩ | ⟨t0, q1, q2, _, q3, q4, _⟩
      ·omega
      ·have := hM t0 q1 (by omega); omega
     clear hst hws htl hgood hzero hinn inn hM hms1;generalize hMv : atI L1 (f + 1 + k) = M at *;by_cases c1 : M < 0
     ·have hI := hsk fun _ => .inl (by omega)
      repeat(first|apply Ya|apply Yb|apply Yc|((first|apply Yd|apply Ye|apply Yf|apply Yg|apply Yh);simp -implicitDefEqProofs(maxSteps:=9^7)(disch:=first|exact Yo rfl|omega|(simp only[go_sem]<;>omega)|fail)only[go_sem, hto, x1, x2, List.getElem?_map, Option.map_some, c1]<;>try with_reducible rfl)|apply Yi|apply Yj|apply Yk|apply Yl|apply Ym|apply Yn)
      apply Ys
      ·simp -implicitDefEqProofs(maxSteps:=9^7)(disch:=first|exact Yo rfl|omega|(simp only[go_sem]<;>omega)|fail)only[go_sem, norm_eq, Ok.some]; with_reducible rfl
      refine ⟨by omega, mn, nx, by simp; omega, hI⟩
     ·by_cases c2 : 0 ≤ mn ∧ mn ≤ M + 1
      ·have hI := hsk fun _ => .inr c2
       obtain ⟨c21, c22⟩ := c2;repeat(first|apply Ya|apply Yb|apply Yc|((first|apply Yd|apply Ye|apply Yf|apply Yg|apply Yh);simp -implicitDefEqProofs(maxSteps:=9^7)(disch:=first|exact Yo rfl|omega|(simp only[go_sem]<;>omega)|fail)only[go_sem, hto, x1, x2, List.getElem?_map, Option.map_some, c1, c21, c22]<;>try with_reducible rfl)|apply Yi|apply Yj|apply Yk|apply Yl|apply Ym|apply Yn)
       apply Ys
       ·simp -implicitDefEqProofs(maxSteps:=9^7)(disch:=first|exact Yo rfl|omega|(simp only[go_sem]<;>omega)|fail)only[go_sem, norm_eq, Ok.some]; with_reducible rfl
       refine ⟨by omega, mn, nx, by simp; omega, hI⟩
      ·by_cases c3 : (pre (seg m f (f + 1 + k)) (f + 1 + k - f)).Has0
       ·by_cases c4 : worstL (strL (seg m f (f + 1 + k))) ≤ tol
        ·have hI := htk (by rw [hsb]; exact decide_eq_true ⟨c3, c4⟩) (by omega) c2
         by_cases c21 : 0 ≤ mn
         ·have c22 : ¬ mn ≤ M + 1 := fun h => c2 ⟨c21, h⟩
          repeat(first|apply Ya|apply Yb|apply Yc|((first|apply Yd|apply Ye|apply Yf|apply Yg|apply Yh);simp -implicitDefEqProofs(maxSteps:=9^7)(disch:=first|exact Yo rfl|omega|(simp only[go_sem]<;>omega)|fail)only[go_sem, hto, x1, x2, x3, List.getElem?_map, Option.map_some, c1, c21, c22, hst', hws', htl', c3, c4]<;>try with_reducible rfl)|apply Yi|apply Yj|apply Yk|apply Yl|apply Ym|apply Yn)
          apply Ys
          ·simp -implicitDefEqProofs(maxSteps:=9^7)(disch:=first|exact Yo rfl|omega|(simp only[go_sem]<;>omega)|fail)only[go_sem, norm_eq, Ok.some]; with_reducible rfl
          refine ⟨by omega, M + 1, _, ?_, hI⟩
          simp [List.map_set]; omega
         ·repeat(first|apply Ya|apply Yb|apply Yc|((first|apply Yd|apply Ye|apply Yf|apply Yg|apply Yh);simp -implicitDefEqProofs(maxSteps:=9^7)(disch:=first|exact Yo rfl|omega|(simp only[go_sem]<;>omega)|fail)only[go_sem, hto, x1, x2, x3, List.getElem?_map, Option.map_some, c1, c21, hst', hws', htl', c3, c4]<;>try with_reducible rfl)|apply Yi|apply Yj|apply Yk|apply Yl|apply Ym|apply Yn)
          apply Ys
          ·simp -implicitDefEqProofs(maxSteps:=9^7)(disch:=first|exact Yo rfl|omega|(simp only[go_sem]<;>omega)|fail)only[go_sem, norm_eq, Ok.some]; with_reducible rfl
          refine ⟨by omega, M + 1, _, ?_, hI⟩
          simp [List.map_set]; omega
        ·have hI := hsk fun h => by rw [hsb] at h; exact absurd (of_decide_eq_true h).2 c4
         by_cases c21 : 0 ≤ mn
         ·have c22 : ¬ mn ≤ M + 1 := fun h => c2 ⟨c21, h⟩
          repeat(first|apply Ya|apply Yb|apply Yc|((first|apply Yd|apply Ye|apply Yf|apply Yg|apply Yh);simp -implicitDefEqProofs(maxSteps:=9^7)(disch:=first|exact Yo rfl|omega|(simp only[go_sem]<;>omega)|fail)only[go_sem, hto, x1, x2, x3, List.getElem?_map, Option.map_some, c1, c21, c22, hst', hws', htl', c3, c4]<;>try with_reducible rfl)|apply Yi|apply Yj|apply Yk|apply Yl|apply Ym|apply Yn)
          apply Ys
          ·simp -implicitDefEqProofs(maxSteps:=9^7)(disch:=first|exact Yo rfl|omega|(simp only[go_sem]<;>omega)|fail)only[go_sem, norm_eq, Ok.some]; with_reducible rfl
          refine ⟨by omega, mn, nx, by simp; omega, hI⟩
         ·repeat(first|apply Ya|apply Yb|apply Yc|((first|apply Yd|apply Ye|apply Yf|apply Yg|apply Yh);simp -implicitDefEqProofs(maxSteps:=9^7)(disch:=first|exact Yo rfl|omega|(simp only[go_sem]<;>omega)|fail)only[go_sem, hto, x1, x2, x3, List.getElem?_map, Option.map_some, c1, c21, hst', hws', htl', c3, c4]<;>try with_reducible rfl)|apply Yi|apply Yj|apply Yk|apply Yl|apply Ym|apply Yn)
          apply Ys
          ·simp -implicitDefEqProofs(maxSteps:=9^7)(disch:=first|exact Yo rfl|omega|(simp only[go_sem]<;>omega)|fail)only[go_sem, norm_eq, Ok.some]; with_reducible rfl
          refine ⟨by omega, mn, nx, by simp; omega, hI⟩
       ·have hI := hsk fun h => by rw [hsb] at h; exact absurd (of_decide_eq_true h).1 c3
        by_cases c21 : 0 ≤ mn
        ·have c22 : ¬ mn ≤ M + 1 := fun h => c2 ⟨c21, h⟩
         repeat(first|apply Ya|apply Yb|apply Yc|((first|apply Yd|apply Ye|apply Yf|apply Yg|apply Yh);simp -implicitDefEqProofs(maxSteps:=9^7)(disch:=first|exact Yo rfl|omega|(simp only[go_sem]<;>omega)|fail)only[go_sem, hto, x1, x2, x3, List.getElem?_map, Option.map_some, c1, c21, c22, hst', hws', htl', c3]<;>try with_reducible rfl)|apply Yi|apply Yj|apply Yk|apply Yl|apply Ym|apply Yn)
         apply Ys
         ·simp -implicitDefEqProofs(maxSteps:=9^7)(disch:=first|exact Yo rfl|omega|(simp only[go_sem]<;>omega)|fail)only[go_sem, norm_eq, Ok.some]; with_reducible rfl
         refine ⟨by omega, mn, nx, by simp; omega, hI⟩
        ·repeat(first|apply Ya|apply Yb|apply Yc|((first|apply Yd|apply Ye|apply Yf|apply Yg|apply Yh);simp -implicitDefEqProofs(maxSteps:=9^7)(disch:=first|exact Yo rfl|omega|(simp only[go_sem]<;>omega)|fail)only[go_sem, hto, x1, x2, x3, List.getElem?_map, Option.map_some, c1, c21, hst', hws', htl', c3]<;>try with_reducible rfl)|apply Yi|apply Yj|apply Yk|apply Yl|apply Ym|apply Yn)
         apply Ys
         ·simp -implicitDefEqProofs(maxSteps:=9^7)(disch:=first|exact Yo rfl|omega|(simp only[go_sem]<;>omega)|fail)only[go_sem, norm_eq, Ok.some]; with_reducible rfl
         refine ⟨by omega, mn, nx, by simp; omega, hI⟩
    ·have ek : f + 1 + k = n + 1 := by omega
     rw [ek] at inn;have hG := hinn mn nx inn;repeat(first|apply Ya|apply Yb|apply Yc|((first|apply Yd|apply Ye|apply Yf|apply Yg|apply Yh);simp -implicitDefEqProofs(maxSteps:=9^7)(disch:=first|exact Yo rfl|omega|(simp only[go_sem]<;>omega)|fail)only[go_sem, show ¬ ((f + 1 + k : Nat) : Int) ≤ n by omega]<;>try with_reducible rfl)|apply Yi|apply Yj|apply Yk|apply Yl|apply Ym|apply Yn)
     apply Ys
     ·simp -implicitDefEqProofs(maxSteps:=9^7)(disch:=first|exact Yo rfl|omega|(simp only[go_sem]<;>omega)|fail)only[go_sem, norm_eq, Ok.some]; with_reducible rfl
     refine ⟨by omega, L1.set f mn, L2.set f nx, ?_, by simp; omega, by simp; omega, fun j hj hjn => ?_, fun j hj => ?_⟩
     ·simp; omega
     ·rw [atI_set (by omega), atI_set (by omega)]
      by_cases e : j = f
      ·subst e; rw [if_pos rfl, if_pos rfl]; exact hG
      ·rw [if_neg e, if_neg e]; exact hgood j (by omega) hjn
     ·rw [atI_set (by omega), atI_set (by omega), if_neg (by omega), if_neg (by omega)]
      exact hzero j (by omega)
 ·obtain rfl : i = n + 1 := by omega
  have hg : ∀ j, j ≤ n → Good m tol n j (atI L1 j) (atI L2 j) := fun j hj => hgood j (by omega) hj
  have hneg : ¬ (0 : Int) ≤ (n : Int) - ((n + 1 : Nat) : Int) := by omega
  have y1 : L1[0]? = some (atI L1 0) := atI_eq (by omega)
  have y2 : L2[0]? = some (atI L2 0) := atI_eq (by omega)
  have hl1 : (0 : Int) < n + 1 := by omega
  clear hst hen hwe hws htl hsl hgood hzero;rcases hg 0 (by omega) with ⟨g1, g2⟩ | ⟨q, l, g1, g2, g3, g4⟩
  ·rw [hmn g2]
   all_goals
    subst hfr;repeat(first|apply Ya|apply Yb|apply Yc|((first|apply Yd|apply Ye|apply Yf|apply Yg|apply Yh);simp -implicitDefEqProofs(maxSteps:=9^7)(disch:=first|exact Yo rfl|omega|(simp only[go_sem]<;>omega)|fail)only[go_sem, hneg, List.getElem?_map, y1, Option.map_some, show atI L1 0 < 0 by omega]<;>try with_reducible rfl)|apply Yi|apply Yj|apply Yk|apply Yl|apply Ym|apply Yn)
  ·have hb := ext_bound (Nat.zero_le _) g3
   rw [hms q l (by omega) g3 g2]
   all_goals
    subst hfr;repeat(first|apply Ya|apply Yb|apply Yc|((first|apply Yd|apply Ye|apply Yf|apply Yg|apply Yh);simp -implicitDefEqProofs(maxSteps:=9^7)(disch:=first|exact Yo rfl|omega|(simp only[go_sem]<;>omega)|fail)only[go_sem, hneg, List.getElem?_map, y1, y2, Option.map_some, show ¬ atI L1 0 < 0 by omega, g4]<;>try with_reducible rfl)|apply Yi|apply Yj|apply Yk|apply Yl|apply Ym|apply Yn)
    apply Yu (n + 1) (fun i fr => ∃ (A : List Int) (f q : Nat) (rest : List Int), fr = ⟨[(6, .slice 384 0 A.length), (11, .slice 704 0 (n + 1)), (16, iv (rest.headD 0))], [(384, .arr 1 (A.map fun n => iv n)), (704, .arr 1 (L2.map fun n => iv n))], [], 10000000⟩ ∧
     i = A.length ∧ f ≤ n ∧ extL m tol n q f = some rest ∧ (∀ q' < q, extL m tol n q' f = none) ∧ l = A ++ rest)
    ·simp -implicitDefEqProofs(maxSteps:=9^7)(disch:=first|exact Yo rfl|omega|(simp only[go_sem]<;>omega)|fail)only[go_sem, norm_eq, Ok.some]
     exact ⟨[], 0, q, l, by simp, rfl, by omega, g3, g2, rfl⟩
    clear y1 y2 g1 g2 g3 g4 hneg hms hmn;rintro i fr hi ⟨A, f, q1, rest, rfl, rfl, hfn, h3, h2, hl⟩;have hAl : A.length ≤ n := by rw [hl] at hb; simp at hb; omega
    cases rest with
    | nil =>
     repeat(first|apply Ya|apply Yb|apply Yc|((first|apply Yd|apply Ye|apply Yf|apply Yg|apply Yh);simp -implicitDefEqProofs(maxSteps:=9^7)(disch:=first|exact Yo rfl|omega|(simp only[go_sem]<;>omega)|fail)only[go_sem, List.headD_nil, Int.lt_irrefl]<;>try with_reducible rfl)|apply Yi|apply Yj|apply Yk|apply Yl|apply Ym|apply Yn)
     rw [hl, List.append_nil]
    | cons t rest =>
     cases q1 with
     | zero =>
      have := (ext_bound hfn h3).2;simp at this
     | succ q1 =>
      obtain ⟨t', r', e, k1, k2, k3, k4, _⟩ := ext_inv h3;simp only [List.cons.injEq] at e;obtain ⟨rfl, rfl⟩ := e;have hmin : ∀ q' < q1, extL m tol n q' t' = none := fun q' hq' => ext_none.1 (h2 (q' + 1) (by omega)) t' k1 k2 k3
      have y3 : L2[t']? = some (atI L2 t') := atI_eq (by omega)
      have hnx : atI L2 t' = rest.headD 0 := by
       rcases hg t' k2 with ⟨_, g⟩ | ⟨q2, l2', g1, g2, g3, g4⟩
       ·rw [g q1] at k4; cases k4
       ·have : q2 = q1 := by
         rcases Nat.lt_trichotomy q2 q1 with h | h | h
         ·rw [hmin q2 h] at g3; cases g3
         ·exact h
         ·rw [g2 q1 h] at k4; cases k4
        subst this;rw [k4] at g3; cases g3; exact g4
      have ht0 : (0 : Int) < t' := by omega
      repeat(first|apply Ya|apply Yb|apply Yc|((first|apply Yd|apply Ye|apply Yf|apply Yg|apply Yh);simp -implicitDefEqProofs(maxSteps:=9^7)(disch:=first|exact Yo rfl|omega|(simp only[go_sem]<;>omega)|fail)only[go_sem, List.headD_cons, ht0, List.getElem?_map, y3, Option.map_some, hnx]<;>try with_reducible rfl)|apply Yi|apply Yj|apply Yk|apply Yl|apply Ym|apply Yn)
      apply Ys
      ·simp -implicitDefEqProofs(maxSteps:=9^7)(disch:=first|exact Yo rfl|omega|(simp only[go_sem]<;>omega)|fail)only[go_sem, norm_eq, Ok.some]; with_reducible rfl
      refine ⟨?_, A ++ [(t' : Int)], t', q1, rest, by simp, by simp, k2, k4, hmin, by simp [hl]⟩
      rw [hl] at hb; simp at hb; omega
end Go.Abs.Seam
