/-
 Chapter 6: what a pick takes up, in lowest terms. No condition beyond those that each theorem names.
-/
import Derived.Test.YtgpbjihpkoiaiaaG1
set_option linter.all false
namespace Go.Abs.Beam
set_option maxRecDepth 10000
set_option maxHeartbeats 1000000
def numP : List PairT → Int
 | [] => 1
 | p :: l => p.dr * numP l
def denP : List PairT → Int
 | [] => 1
 | p :: l => p.dn * denP l
theorem numP_snoc (l : List PairT) (p : PairT) : numP (l ++ [p]) = numP l * p.dr := by
 induction l with
 | nil => simp [numP]
 | cons q l ih => simp only [List.cons_append, numP, ih]; rw [Int.mul_assoc]
theorem denP_snoc (l : List PairT) (p : PairT) : denP (l ++ [p]) = denP l * p.dn := by
 induction l with
 | nil => simp [denP]
 | cons q l ih => simp only [List.cons_append, denP, ih]; rw [Int.mul_assoc]
theorem prod_bound {a b A B : Int} (h1 : 1 ≤ a) (h2 : a ≤ A) (h3 : 1 ≤ b) (h4 : b ≤ B) : 1 ≤ a * b ∧ a * b ≤ A * B := by
 refine ⟨?_, Int.mul_le_mul h2 h4 (by omega) (by omega)⟩
 have := Int.mul_le_mul h1 h3 (by omega) (by omega : (0 : Int) ≤ a)
 simpa using this
theorem numP_bound : ∀ {l : List PairT}, (∀ p ∈ l, p.Ok) → l.length ≤ 2 → (1 ≤ numP l ∧ numP l ≤ 10000) ∧ (1 ≤ denP l ∧ denP l ≤ 10000)
 | [], _, _ => by simp [numP, denP]
 | [p], h, _ => by
  have := h p (by simp)
  simp only [numP, denP, Int.mul_one];omega
 | [p, q], h, _ => by
  have hp := h p (by simp)
  have hq := h q (by simp)
  have h1 := prod_bound hp.1.1 hp.1.2 hq.1.1 hq.1.2;have h2 := prod_bound hp.2.1 hp.2.2 hq.2.1 hq.2.2;simp only [numP, denP, Int.mul_one];omega
 | _ :: _ :: _ :: _, _, h => by simp at h
def numT (t : TakeA) : Int := t.round * t.step * numP t.pairs
def denT (t : TakeA) : Int := t.rat * denP t.pairs
def numI (t : TakeA) (i : Nat) : Int := t.round * t.step * numP (t.pairs.take i)
def denI (t : TakeA) (i : Nat) : Int := t.rat * denP (t.pairs.take i)
theorem numI_succ {t : TakeA} {i : Nat} (h : i < t.pairs.length) : numI t (i + 1) = numI t i * t.pairs[i].dr := by
 unfold numI; rw [List.take_succ_eq_append_getElem h, numP_snoc, ← Int.mul_assoc]
theorem denI_succ {t : TakeA} {i : Nat} (h : i < t.pairs.length) : denI t (i + 1) = denI t i * t.pairs[i].dn := by
 unfold denI; rw [List.take_succ_eq_append_getElem h, denP_snoc, ← Int.mul_assoc]
theorem numI_end (t : TakeA) : numI t t.pairs.length = numT t := by simp [numI, numT]
theorem denI_end (t : TakeA) : denI t t.pairs.length = denT t := by simp [denI, denT]
theorem numI_zero (t : TakeA) : numI t 0 = t.round * t.step := by simp [numI, numP]
theorem denI_zero (t : TakeA) : denI t 0 = t.rat := by simp [denI, denP]
theorem numI_bound {t : TakeA} (h : checkT t = 0) (i : Nat) : (1 ≤ numI t i ∧ numI t i ≤ 25000000000) ∧ (1 ≤ denI t i ∧ denI t i ≤ 1000000) := by
 obtain ⟨hl, ⟨h1, h2, h3⟩, hp⟩ := checkT_zero h;have hb := numP_bound (l := t.pairs.take i) (fun p hm => hp p (List.mem_of_mem_take hm)) (by simp; omega)
 have g1 := prod_bound h3.1 h3.2 h2.1 h2.2;have g2 := prod_bound g1.1 g1.2 hb.1.1 hb.1.2;have g3 := prod_bound h1.1 h1.2 hb.2.1 hb.2.2;unfold numI denI;omega
theorem numT_bound {t : TakeA} (h : checkT t = 0) : (1 ≤ numT t ∧ numT t ≤ 25000000000) ∧ (1 ≤ denT t ∧ denT t ≤ 1000000) := by
 rw [← numI_end, ← denI_end]; exact numI_bound h _
def gT (t : TakeA) : Nat := Nat.gcd (numT t).toNat (denT t).toNat
def nT (t : TakeA) : Int := ((numT t).toNat / gT t : Nat)
def dT (t : TakeA) : Int := ((denT t).toNat / gT t : Nat)
def takeV (t : TakeA) : AV := .agg [iv (nT t), iv (dT t)]
theorem gT_pos {t : TakeA} (h : checkT t = 0) : 0 < gT t := Nat.gcd_pos_of_pos_left _ (by have := (numT_bound h).1.1; omega)
theorem nT_bound {t : TakeA} (h : checkT t = 0) : (1 ≤ nT t ∧ nT t ≤ 25000000000) ∧ (1 ≤ dT t ∧ dT t ≤ 1000000) := by
 have hb := numT_bound h;have hg := gT_pos h;have h1 : gT t ≤ (numT t).toNat := Nat.gcd_le_left _ (by omega)
 have h2 : gT t ≤ (denT t).toNat := Nat.gcd_le_right _ (by omega)
 have h3 : 0 < (numT t).toNat / gT t := Nat.div_pos h1 hg;have h4 : 0 < (denT t).toNat / gT t := Nat.div_pos h2 hg;have h5 : (numT t).toNat / gT t ≤ (numT t).toNat := Nat.div_le_self _ _;have h6 : (denT t).toNat / gT t ≤ (denT t).toNat := Nat.div_le_self _ _;unfold nT dT;omega
theorem tmod_nat (a b : Nat) : Int.tmod (a : Int) (b : Int) = ((a % b : Nat) : Int) := rfl
theorem tdiv_nat (a b : Nat) : Int.tdiv (a : Int) (b : Int) = ((a / b : Nat) : Int) := rfl
theorem lowest_ok (p q : Nat) (hp : p < 4611686018427387904) (hq : q < 4611686018427387904) (h0 : 0 < p) :
  lim F 118 [.agg [iv p, iv q]] = some (.agg [iv ((p / Nat.gcd p q : Nat) : Int), iv ((q / Nat.gcd p q : Nat) : Int)], []) := by
 have hg : 0 < Nat.gcd p q := Nat.gcd_pos_of_pos_left _ h0;have hgn : (Nat.gcd p q : Int) ≠ 0 := by omega
 refine Yr (fn:=a118) (k:=1) (res:=[.cell 2 2 true]) rfl rfl rfl (by simp -implicitDefEqProofs(maxSteps:=9^7)(disch:=first|exact Yo rfl|omega|(simp only[go_sem]<;>omega)|fail)only[go_sem]) ?_
 try delta mvA
 try delta opA
 try delta tA
 simp -implicitDefEqProofs(maxSteps:=9^7)(disch:=first|exact Yo rfl|omega|(simp only[go_sem]<;>omega)|fail)only[go_sem]
 repeat(first|apply Ya|apply Yb|apply Yc|((first|apply Yd|apply Ye|apply Yf|apply Yg|apply Yh);simp -implicitDefEqProofs(maxSteps:=9^7)(disch:=first|exact Yo rfl|omega|(simp only[go_sem]<;>omega)|fail)only[go_sem]<;>try with_reducible rfl)|apply Yi|apply Yj|apply Yk|apply Yl|apply Ym|apply Yn)
 apply Wp.loopM (fun k fr => ∃ a b : Nat, fr = ⟨[(1, .ptr 64 0 0), (2, .ptr 128 0 0), (3, iv a), (4, iv b)], [(64, .box [iv p, iv q]), (128, .box [iv 0, iv 0])], [], 10000000⟩ ∧
  k = b ∧ Nat.gcd a b = Nat.gcd p q ∧ a < 4611686018427387904 ∧ b < 4611686018427387904)
 ·simp -implicitDefEqProofs(maxSteps:=9^7)(disch:=first|exact Yo rfl|omega|(simp only[go_sem]<;>omega)|fail)only[go_sem, norm_eq, Ok.some]
  exact ⟨q, p, q, rfl, rfl, rfl, hp, hq⟩
 rintro k fr ⟨a, b, rfl, rfl, hgc, ha, hb⟩;by_cases h : 0 < k
 ·have hn : (k : Int) ≠ 0 := by omega
  have hm : a % k < k := Nat.mod_lt _ h;repeat(first|apply Ya|apply Yb|apply Yc|((first|apply Yd|apply Ye|apply Yf|apply Yg|apply Yh);simp -implicitDefEqProofs(maxSteps:=9^7)(disch:=first|exact Yo rfl|omega|(simp only[go_sem]<;>omega)|fail)only[go_sem, h, show (0 : Int) < k by omega, hn, tmod_nat]<;>try with_reducible rfl)|apply Yi|apply Yj|apply Yk|apply Yl|apply Ym|apply Yn)
  apply Ys (Q := fun _ _ => False)
  ·simp -implicitDefEqProofs(maxSteps:=9^7)(disch:=first|exact Yo rfl|omega|(simp only[go_sem]<;>omega)|fail)only[go_sem, norm_eq, Ok.some]; with_reducible rfl
  refine ⟨a % k, hm, k, a % k, rfl, rfl, ?_, hb, by omega⟩
  rw [← hgc, Nat.gcd_comm k, ← Nat.gcd_rec, Nat.gcd_comm]
 ·obtain rfl : k = 0 := by omega
  rw [Nat.gcd_zero_right] at hgc;subst hgc;have h1 : p / Nat.gcd p q ≤ p := Nat.div_le_self _ _;have h2 : q / Nat.gcd p q ≤ q := Nat.div_le_self _ _;have d1 := tdiv_nat p (Nat.gcd p q);have d2 := tdiv_nat q (Nat.gcd p q);generalize p / Nat.gcd p q = x at h1 d1 ⊢;generalize q / Nat.gcd p q = y at h2 d2 ⊢;repeat(first|apply Ya|apply Yb|apply Yc|((first|apply Yd|apply Ye|apply Yf|apply Yg|apply Yh);simp -implicitDefEqProofs(maxSteps:=9^7)(disch:=first|exact Yo rfl|omega|(simp only[go_sem]<;>omega)|fail)only[go_sem, hgn, d1, d2]<;>try with_reducible rfl)|apply Yi|apply Yj|apply Yk|apply Yl|apply Ym|apply Yn)
theorem taken_ok (t : TakeA) (h : checkT t = 0) : lim F 60 [t.av] = some (takeV t, []) := by
 obtain ⟨hl, ⟨h1, h2, h3⟩, hp⟩ := checkT_zero h;have hb := numT_bound h;have hlow := lowest_ok (numT t).toNat (denT t).toNat (by omega) (by omega) (by omega)
 have e1 : ((numT t).toNat : Int) = numT t := by omega
 have e2 : ((denT t).toNat : Int) = denT t := by omega
 rw [e1, e2] at hlow;have b0 := numI_bound h 0;rw [numI_zero, denI_zero] at b0;unfold TakeA.av takeV;refine Yr (fn:=a60) (k:=1) (res:=[.cell 2 2 true]) rfl rfl rfl (by simp -implicitDefEqProofs(maxSteps:=9^7)(disch:=first|exact Yo rfl|omega|(simp only[go_sem]<;>omega)|fail)only[go_sem]) ?_
 try delta mvA
 try delta opA
 try delta tA
 simp -implicitDefEqProofs(maxSteps:=9^7)(disch:=first|exact Yo rfl|omega|(simp only[go_sem]<;>omega)|fail)only[go_sem]
 repeat(first|apply Ya|apply Yb|apply Yc|((first|apply Yd|apply Ye|apply Yf|apply Yg|apply Yh);simp -implicitDefEqProofs(maxSteps:=9^7)(disch:=first|exact Yo rfl|omega|(simp only[go_sem]<;>omega)|fail)only[go_sem]<;>try with_reducible rfl)|apply Yi|apply Yj|apply Yk|apply Yl|apply Ym|apply Yn)
 apply Yt t.pairs.length (fun i => ⟨[(2, .ptr 128 0 0), (3, .ptr 192 0 0), (16, .list 2 (t.pairs.map PairT.av)), (17, iv t.pairs.length), (18, iv i)], [(128, .box [iv 0, iv 0]), (192, .box [iv (numI t i), iv (denI t i)])], [], 10000000⟩) (fun _ => True)
 ·simp -implicitDefEqProofs(maxSteps:=9^7)(disch:=first|exact Yo rfl|omega|(simp only[go_sem]<;>omega)|fail)only[go_sem, norm_eq, Ok.some]
  rw [numI_zero, denI_zero];rfl
 ·trivial
 intro i hi _;by_cases hlt : i < t.pairs.length
 ·have bi := numI_bound h i
  have bj := numI_bound h (i + 1);have s1 := numI_succ hlt;have s2 := denI_succ hlt;repeat(first|apply Ya|apply Yb|apply Yc|((first|apply Yd|apply Ye|apply Yf|apply Yg|apply Yh);simp -implicitDefEqProofs(maxSteps:=9^7)(disch:=first|exact Yo rfl|omega|(simp only[go_sem]<;>omega)|fail)only[go_sem, hlt, Int.ofNat_lt, List.getElem?_map, List.getElem?_eq_getElem hlt, Option.map_some, PairT.av.eq_1, ← s1, ← s2]<;>try with_reducible rfl)|apply Yi|apply Yj|apply Yk|apply Yl|apply Ym|apply Yn)
  apply Ys
  ·simp -implicitDefEqProofs(maxSteps:=9^7)(disch:=first|exact Yo rfl|omega|(simp only[go_sem]<;>omega)|fail)only[go_sem, norm_eq, Ok.some]; with_reducible rfl
  exact ⟨hlt, by simp, trivial⟩
 ·obtain rfl : i = t.pairs.length := by omega
  rw [numI_end, denI_end];repeat(first|apply Ya|apply Yb|apply Yc|((first|apply Yd|apply Ye|apply Yf|apply Yg|apply Yh);simp -implicitDefEqProofs(maxSteps:=9^7)(disch:=first|exact Yo rfl|omega|(simp only[go_sem]<;>omega)|fail)only[go_sem, Int.lt_irrefl, hlow]<;>try with_reducible rfl)|apply Yi|apply Yj|apply Yk|apply Yl|apply Ym|apply Yn)
  rfl
theorem Take_ok (t : TakeA) : lim F 12 [t.av] = some (.tuple [if checkT t = 0 then takeV t else .agg [iv 0, iv 0], iv (checkT t)], []) := by
 have hc := Check_ok t;by_cases h : checkT t = 0
 ·have ht := taken_ok t h
  rw [if_pos h];rw [h] at hc;rw [h];unfold TakeA.av at hc ht ⊢;unfold takeV at ht ⊢;refine Yr (fn:=a12) (k:=1) (res:=[.cell 2 2 true, .tmp 3]) rfl rfl rfl (by simp -implicitDefEqProofs(maxSteps:=9^7)(disch:=first|exact Yo rfl|omega|(simp only[go_sem]<;>omega)|fail)only[go_sem]) ?_
  try delta mvA
  try delta opA
  try delta tA
  simp -implicitDefEqProofs(maxSteps:=9^7)(disch:=first|exact Yo rfl|omega|(simp only[go_sem]<;>omega)|fail)only[go_sem]
  repeat(first|apply Ya|apply Yb|apply Yc|((first|apply Yd|apply Ye|apply Yf|apply Yg|apply Yh);simp -implicitDefEqProofs(maxSteps:=9^7)(disch:=first|exact Yo rfl|omega|(simp only[go_sem]<;>omega)|fail)only[go_sem, hc, ht]<;>try with_reducible rfl)|apply Yi|apply Yj|apply Yk|apply Yl|apply Ym|apply Yn)
 ·rw [if_neg h]
  generalize checkT t = c at hc h;unfold TakeA.av at hc ⊢;refine Yr (fn:=a12) (k:=1) (res:=[.cell 2 2 true, .tmp 3]) rfl rfl rfl (by simp -implicitDefEqProofs(maxSteps:=9^7)(disch:=first|exact Yo rfl|omega|(simp only[go_sem]<;>omega)|fail)only[go_sem]) ?_
  try delta mvA
  try delta opA
  try delta tA
  simp -implicitDefEqProofs(maxSteps:=9^7)(disch:=first|exact Yo rfl|omega|(simp only[go_sem]<;>omega)|fail)only[go_sem]
  repeat(first|apply Ya|apply Yb|apply Yc|((first|apply Yd|apply Ye|apply Yf|apply Yg|apply Yh);simp -implicitDefEqProofs(maxSteps:=9^7)(disch:=first|exact Yo rfl|omega|(simp only[go_sem]<;>omega)|fail)only[go_sem, hc, h]<;>try with_reducible rfl)|apply Yi|apply Yj|apply Yk|apply Yl|apply Ym|apply Yn)
def picksOf (t : TakeA) (n : Int) : Int := n * dT t / nT t
theorem picks_bound {t : TakeA} {n : Int} (h : checkT t = 0) (hn : 0 ≤ n ∧ n ≤ 10000000000) : (0 ≤ n * dT t ∧ n * dT t ≤ 10000000000000000) ∧ 0 ≤ picksOf t n ∧ picksOf t n ≤ 10000000000000000 := by
 have nb := nT_bound h;have h1 : 0 ≤ n * dT t := Int.mul_nonneg hn.1 (by omega)
 have h2 : n * dT t ≤ 10000000000 * 1000000 := Int.mul_le_mul hn.2 nb.2.2 (by omega) (by omega)
 have h3 : 0 ≤ picksOf t n := Int.ediv_nonneg h1 (by omega)
 have h4 : picksOf t n ≤ n * dT t := Int.ediv_le_self _ h1;exact ⟨⟨h1, by omega⟩, h3, by omega⟩
def picksE (t : TakeA) (n : Int) : Int := if checkT t = 0 then if 0 ≤ n ∧ n ≤ 10000000000 then 0 else 3 else checkT t
end Go.Abs.Beam
