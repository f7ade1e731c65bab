/-
 Several texts: L1, V1, V2, U1.
-/
import Derived.Test.YtgpbjihpkoiaiaaV0
set_option linter.all false
namespace Go.Abs
set_option maxRecDepth 10000
set_option maxHeartbeats 2000000
def DesN.cap (d : DesN) : AV := .iptr (.agg [iv (d.hk : Int),.list 1 (d.rows.map fun n : Nat => iv (n : Int))]) 0
end Go.Abs
set_option linter.all false
namespace Go.Abs
set_option maxRecDepth 10000
set_option maxHeartbeats 4000000
theorem at_ok (d : DesN) (hd : d.Ok) (p h : Nat) (hp : p ≤ 1000000) (hh : h ≤ 1000000) : lim F 99 [d.av,iv (p : Int),iv (h : Int)] = some (.bool (atN d p h),[]) := by
 have h24 := hd.h24;have h1 := hd.h1;have hr1 := hd.r1;have h60 := hd.r60;have p1 : 2 ^ d.hk ≤ 2 ^ 24 := Nat.pow_le_pow_right (by omega) (by omega)
 have hm := Nat.mod_lt p (show 0 < d.rows.length by omega)
 have hm2 := Nat.mod_lt h (show 0 < d.hk by omega)
 have hlt := hd.lt _ (List.getElem_mem hm);rw [← rows_get hm] at hlt;have hg := nats_at hm;have hln : (natsV d.rows).length = d.rows.length := by simp
 have e1 : Int.tmod (p : Int) (d.rows.length : Int) = ((p % d.rows.length : Nat) : Int) := by rw [Int.tmod_eq_emod_of_nonneg (Int.natCast_nonneg _)]; simp
 have e2 : Int.tmod (h : Int) (d.hk : Int) = ((h % d.hk : Nat) : Int) := by rw [Int.tmod_eq_emod_of_nonneg (Int.natCast_nonneg _)]; simp
 unfold DesN.av atN;change lim F _ [.agg [_,.list 1 (natsV d.rows)],_,_] = _;generalize d.rows.getD (p % d.rows.length) 0 = r at *;generalize p % d.rows.length = pm at *;generalize h % d.hk = hmm at *;have s1 := w_shr r hmm (by omega)
 have sb : r >>> hmm < 9223372036854775808 := by rw [Nat.shiftRight_eq_div_pow]; have := Nat.div_le_self r (2 ^ hmm); omega
 have s2 := w_and1 (r >>> hmm) sb;have eb := bit_eq r hmm;generalize r.testBit hmm = b at *;generalize r >>> hmm &&& 1 = y at *;generalize r >>> hmm = z at *;generalize natsV d.rows = rs at *;refine Yr (fn:=a99) (k:=3) (res:=[.tmp 6]) rfl rfl rfl (by simp -implicitDefEqProofs(maxSteps:=9^7)(disch:=first|exact Yo rfl|omega|(simp only[go_sem]<;>omega)|fail)only[go_sem]) ?_
 try delta mvA
 try delta opA
 try delta tA
 simp -implicitDefEqProofs(maxSteps:=9^7)(disch:=first|exact Yo rfl|omega|(simp only[go_sem]<;>omega)|fail)only[go_sem]
 repeat(first|apply Ya|apply Yb|apply Yc|((first|apply Yd|apply Ye|apply Yf|apply Yg|apply Yh);simp -implicitDefEqProofs(maxSteps:=9^7)(disch:=first|exact Yo rfl|omega|(simp only[go_sem]<;>omega)|fail)only[go_sem,hln,e1,e2,hg,s1,s2,eb,Int.toNat_natCast,show (d.rows.length : Int) ≠ 0 by omega,show (d.hk : Int) ≠ 0 by omega]<;>try with_reducible rfl)|apply Yi|apply Yj|apply Yk|apply Yl|apply Ym|apply Yn)
def Lr (g : Nat → Nat → Bool) (picks hooks p v : Nat) : List AV := (List.range picks).map fun q => iv ((if q < p then rowTo (g q) hooks else if q = p then v else 0 : Nat) : Int)
theorem Lr_len (g : Nat → Nat → Bool) (picks hooks p v : Nat) : (Lr g picks hooks p v).length = picks := by simp [Lr]
theorem Lr_get {g : Nat → Nat → Bool} {picks hooks p v : Nat} (h : p < picks) : (Lr g picks hooks p v)[p]? = some (iv (v : Int)) := by
 unfold Lr;rw [List.getElem?_map,List.getElem?_range h];simp
theorem Lr_set {g : Nat → Nat → Bool} {picks hooks p v w : Nat} (h : p < picks) : (Lr g picks hooks p v).set p (iv (w : Int)) = Lr g picks hooks p w := by
 apply List.ext_getElem
 ·simp [Lr]
 ·intro i h1 h2
  rw [List.getElem_set];by_cases e : p = i
  ·subst e
   simp [Lr]
  ·rw [if_neg e]
   have e' : ¬ i = p := fun h => e h.symm
   simp [Lr,e']
theorem Lr_next {g : Nat → Nat → Bool} {picks hooks p : Nat} : Lr g picks hooks p (rowTo (g p) hooks) = Lr g picks hooks (p + 1) 0 := by
 unfold Lr;apply List.map_congr_left;intro q _;by_cases h1 : q < p
 ·rw [if_pos h1,if_pos (by omega)]
 ·by_cases h2 : q = p
  ·rw [if_neg h1,if_pos h2,if_pos (by omega),h2]
  ·rw [if_neg h1,if_neg h2,if_neg (by omega)]
   split <;> rfl
theorem Lr_zero (g : Nat → Nat → Bool) (picks hooks : Nat) : Lr g picks hooks 0 0 = List.replicate picks (iv 0) := by
 unfold Lr;apply List.ext_getElem
 ·simp
 ·intro i h1 h2
  simp
def madeN (g : Nat → Nat → Bool) (picks hooks : Nat) : DesN := ⟨hooks,(List.range picks).map fun q => rowTo (g q) hooks⟩
theorem Lr_end (g : Nat → Nat → Bool) (picks hooks : Nat) : Lr g picks hooks picks 0 = (madeN g picks hooks).rows.map fun n : Nat => iv (n : Int) := by
 unfold Lr madeN;rw [List.map_map];apply List.map_congr_left;intro q hq;rw [if_pos (List.mem_range.1 hq)]; rfl
theorem Lr_plain (g : Nat → Nat → Bool) (picks hooks p v : Nat) : (Lr g picks hooks p v).all AV.plain = true := by
 simp [Lr,AV.plain,AV.plain1]
theorem made2_ok (picks hooks f : Nat) (x y : AV) (g : Nat → Nat → Bool) (hp1 : picks ≤ 1000) (hh1 : hooks ≤ 24) (hf : ∀ p h,p < picks → h < hooks → lim F f [iv (p : Int),iv (h : Int),.iptr x 0,.iptr y 0] = some (.bool (g p h),[])) :
  lim F 97 [iv (picks : Int),iv (hooks : Int),.func f [.iptr x 0,.iptr y 0]] = some (.agg [iv (hooks : Int),.own 1 ((madeN g picks hooks).rows.map fun n : Nat => iv (n : Int))],[]) := by
 have hz := Lr_zero g picks hooks;rw [← Lr_end];refine Yr (fn:=a97) (k:=3) (res:=[.cell 6 2 true]) rfl rfl rfl (by simp -implicitDefEqProofs(maxSteps:=9^7)(disch:=first|exact Yo rfl|omega|(simp only[go_sem]<;>omega)|fail)only[go_sem]) ?_
 try delta mvA
 try delta opA
 try delta tA
 simp -implicitDefEqProofs(maxSteps:=9^7)(disch:=first|exact Yo rfl|omega|(simp only[go_sem]<;>omega)|fail)only[go_sem]
 repeat(first|apply Ya|apply Yb|apply Yc|((first|apply Yd|apply Ye|apply Yf|apply Yg|apply Yh);simp -implicitDefEqProofs(maxSteps:=9^7)(disch:=first|exact Yo rfl|omega|(simp only[go_sem]<;>omega)|fail)only[go_sem]<;>try with_reducible rfl)|apply Yi|apply Yj|apply Yk|apply Yl|apply Ym|apply Yn)
 apply Yt picks (fun p => ⟨[(1,iv (hooks : Int)),(2,.func f [.iptr x 0,.iptr y 0]),(6,.ptr 384 0 0),(7,.ptr 448 0 0),(14,iv (picks : Int)),(15,iv (p : Int))],[(384,.box [iv 0,.slice 306145 0 0]),(448,.box [iv (hooks : Int),.slice 307169 0 picks]),(306145,.arr 1 []),(307169,.arr 1 (Lr g picks hooks p 0))],[],10000000⟩) (fun _ => True)
 ·rw [hz]
  simp -implicitDefEqProofs(maxSteps:=9^7)(disch:=first|exact Yo rfl|omega|(simp only[go_sem]<;>omega)|fail)only[go_sem,norm_eq,Ok.some]
  rfl
 ·trivial
 intro p hp _;by_cases h : p < picks
 ·have hfp := fun k hk => hf p k h hk
  repeat(first|apply Ya|apply Yb|apply Yc|((first|apply Yd|apply Ye|apply Yf|apply Yg|apply Yh);simp -implicitDefEqProofs(maxSteps:=9^7)(disch:=first|exact Yo rfl|omega|(simp only[go_sem]<;>omega)|fail)only[go_sem,h,Int.ofNat_lt]<;>try with_reducible rfl)|apply Yi|apply Yj|apply Yk|apply Yl|apply Ym|apply Yn)
  apply Yt hooks (fun k => ⟨[(1,iv (hooks : Int)),(2,.func f [.iptr x 0,.iptr y 0]),(6,.ptr 384 0 0),(7,.ptr 448 0 0),(8,iv (p : Int)),(14,iv (picks : Int)),(15,iv (p : Int)),(18,iv (hooks : Int)),(19,iv (k : Int))],[(384,.box [iv 0,.slice 306145 0 0]),(448,.box [iv (hooks : Int),.slice 307169 0 picks]),(306145,.arr 1 []),(307169,.arr 1 (Lr g picks hooks p (rowTo (g p) k)))],[],10000000⟩) (fun _ => True)
  ·simp -implicitDefEqProofs(maxSteps:=9^7)(disch:=first|exact Yo rfl|omega|(simp only[go_sem]<;>omega)|fail)only[go_sem,norm_eq,Ok.some]
   try rfl
  ·trivial
  intro k hk _;by_cases hkk : k < hooks
  ·have hc := hfp k hkk
   have hlen := Lr_len g picks hooks p (rowTo (g p) k);have hge := Lr_get (g := g) (hooks := hooks) (v := rowTo (g p) k) h;have hse := Lr_set (g := g) (hooks := hooks) (v := rowTo (g p) k) (w := rowTo (g p) (k + 1)) h;have hst : rowTo (g p) (k + 1) = rowTo (g p) k ||| (if g p k then 2 ^ k else 0) := rfl
   have p1 : 2 ^ k ≤ 2 ^ 24 := Nat.pow_le_pow_right (by omega) (by omega)
   have hlt := rowTo_lt (g p) k;cases hb : g p k with
   | true =>
    rw [hb] at hc hst;rw [if_pos rfl] at hst;have s1 := w_shl1 k (by omega)
    have s2 := w_or (rowTo (g p) k) (2 ^ k) (by omega) (by omega)
    rw [← hst] at s2;generalize rowTo (g p) k = v at *;generalize rowTo (g p) (k + 1) = v' at *;generalize Lr g picks hooks p v = L at *;generalize Lr g picks hooks p v' = L' at *;generalize 2 ^ k = pw at *;repeat(first|apply Ya|apply Yb|apply Yc|((first|apply Yd|apply Ye|apply Yf|apply Yg|apply Yh);simp -implicitDefEqProofs(maxSteps:=9^7)(disch:=first|exact Yo rfl|omega|(simp only[go_sem]<;>omega)|fail)only[go_sem,h,hkk,Int.ofNat_lt,hc,hlen,hge,hse,s1,s2,Int.toNat_natCast]<;>try with_reducible rfl)|apply Yi|apply Yj|apply Yk|apply Yl|apply Ym|apply Yn)
    apply Ys
    ·simp -implicitDefEqProofs(maxSteps:=9^7)(disch:=first|exact Yo rfl|omega|(simp only[go_sem]<;>omega)|fail)only[go_sem,norm_eq,Ok.some]; with_reducible rfl
    exact ⟨hkk,by simp,trivial⟩
   | false =>
    rw [hb] at hc hst;rw [if_neg (by simp),Nat.or_zero] at hst
    rw [hst];generalize Lr g picks hooks p (rowTo (g p) k) = L at *;repeat(first|apply Ya|apply Yb|apply Yc|((first|apply Yd|apply Ye|apply Yf|apply Yg|apply Yh);simp -implicitDefEqProofs(maxSteps:=9^7)(disch:=first|exact Yo rfl|omega|(simp only[go_sem]<;>omega)|fail)only[go_sem,h,hkk,Int.ofNat_lt,hc,hlen,Int.toNat_natCast]<;>try with_reducible rfl)|apply Yi|apply Yj|apply Yk|apply Yl|apply Ym|apply Yn)
    apply Ys
    ·simp -implicitDefEqProofs(maxSteps:=9^7)(disch:=first|exact Yo rfl|omega|(simp only[go_sem]<;>omega)|fail)only[go_sem,norm_eq,Ok.some]; with_reducible rfl
    exact ⟨hkk,by simp,trivial⟩
  ·obtain rfl : k = hooks := by omega
   have hnx := Lr_next (g := g) (picks := picks) (hooks := k) (p := p);rw [hnx];repeat(first|apply Ya|apply Yb|apply Yc|((first|apply Yd|apply Ye|apply Yf|apply Yg|apply Yh);simp -implicitDefEqProofs(maxSteps:=9^7)(disch:=first|exact Yo rfl|omega|(simp only[go_sem]<;>omega)|fail)only[go_sem,h,Int.ofNat_lt,Int.lt_irrefl]<;>try with_reducible rfl)|apply Yi|apply Yj|apply Yk|apply Yl|apply Ym|apply Yn)
   apply Ys
   ·simp -implicitDefEqProofs(maxSteps:=9^7)(disch:=first|exact Yo rfl|omega|(simp only[go_sem]<;>omega)|fail)only[go_sem,norm_eq,Ok.some]; with_reducible rfl
   exact ⟨h,by simp,trivial⟩
 ·obtain rfl : p = picks := by omega
  have hlen := Lr_len g p hooks p 0;have hpl := Lr_plain g p hooks p 0;generalize Lr g p hooks p 0 = L at *;repeat(first|apply Ya|apply Yb|apply Yc|((first|apply Yd|apply Ye|apply Yf|apply Yg|apply Yh);simp -implicitDefEqProofs(maxSteps:=9^7)(disch:=first|exact Yo rfl|omega|(simp only[go_sem]<;>omega)|fail)only[go_sem,Int.lt_irrefl,hlen,hpl]<;>try with_reducible rfl)|apply Yi|apply Yj|apply Yk|apply Yl|apply Ym|apply Yn)
end Go.Abs
set_option linter.all false
namespace Go.Abs
set_option maxRecDepth 10000
set_option maxHeartbeats 4000000
def mirrorN (d : DesN) : DesN := madeN (fun p h => atN d p (d.hk - 1 - h)) d.rows.length d.hk
def flipN (d : DesN) : DesN := madeN (fun p h => atN d (d.rows.length - 1 - p) h) d.rows.length d.hk
def backN (d : DesN) : DesN := madeN (fun p h => !atN d p h) d.rows.length d.hk
def shiftN (d : DesN) (a b : Nat) : DesN := madeN (fun p h => atN d (p + d.rows.length - a) (h + d.hk - b)) d.rows.length d.hk
def DesN.out (d : DesN) : AV := .agg [iv (d.hk : Int),.own 1 (d.rows.map fun n : Nat => iv (n : Int))]
end Go.Abs
set_option linter.all false
namespace Go.Abs
set_option maxRecDepth 10000
set_option maxHeartbeats 4000000
abbrev WordB := Fin 65536
def wordsV (l : List WordB) : List AV := l.map fun r => .int .u16 (r.1 : Int)
@[simp] theorem words_len (l : List WordB) : (wordsV l).length = l.length := by simp [wordsV]
def wsrc (l : List WordB) (i : Nat) : Nat := (l[i]?.map fun r => r.1).getD 1
def pubN (v : Nat) (l : List WordB) : DesN := ⟨2 + v % 7,(List.range (max 1 (min l.length 12))).map fun i => wsrc l i % 2 ^ (2 + v % 7)⟩
end Go.Abs
