/-
 Several texts: M1, M3, M4, KL, M2, M5, P2, R1, P3, P4, V0.
-/
import Derived.Test.YtlcikiobkmajbaaP1
import Derived.Test.YtlcikiobkmajbaaFns
import Derived.Test.YtlcikiobkmajbaaK
import Derived.Test.YtlcikiobkmajbaaEvI
set_option linter.all false
namespace Go.Abs
set_option maxRecDepth 10000
def gb (l : List Bool) (i : Nat) : Bool:=l.getD (i % l.length) false
def begs (l : List Bool) (i : Nat) : Bool:=gb l i != gb l (i + l.length - 1)
def lenT (l : List Bool) (i : Nat) : Nat:=1 + (List.range l.length).findIdx fun k=>gb l (i + 1 + k) != gb l i
theorem gb_lt {l : List Bool} {i : Nat} (h : i < l.length) : gb l i = l[i]:=by
 unfold gb;rw [Nat.mod_eq_of_lt h,List.getD_eq_getElem?_getD,List.getElem?_eq_getElem h]; rfl
theorem gb_mod (l : List Bool) (i : Nat) : gb l (i % l.length) = gb l i:=by
 unfold gb; rw [Nat.mod_mod]
theorem gb_add (l : List Bool) (i : Nat) : gb l (i + l.length) = gb l i:=by
 unfold gb; rw [Nat.add_mod_right]
theorem gb_get {l : List Bool} {i : Nat} (h : 0 < l.length) : l[i % l.length]? = some (gb l i):=by
 have:=Nat.mod_lt i h;unfold gb;rw [List.getD_eq_getElem?_getD,List.getElem?_eq_getElem this]; rfl
structure LenIs (l : List Bool) (i n : Nat) : Prop where
 pos : 1≤n
 lt : n < l.length
 same : ∀ k,k < n → gb l (i + k) = gb l i
 other : gb l (i + n) ≠ gb l i
theorem lenT_is {l : List Bool} {i : Nat} (h : begs l i = true) : LenIs l i (lenT l i):=by
 have hb : gb l i ≠ gb l (i + l.length - 1):=by simpa [begs] using h
 have h2 : 2≤l.length:=by
  rcases Nat.lt_or_ge 1 l.length with h | h
  ·exact h
  ·exfalso; apply hb
   unfold gb;have : l.length = 0 ∨ l.length = 1:=by omega
   rcases this with h' | h'
   ·rw [List.length_eq_zero_iff.1 h']; simp
   ·rw [h',Nat.mod_one,Nat.mod_one]
 have hex : ∃ k ∈ List.range l.length,(gb l (i + 1 + k) != gb l i) = true:=⟨l.length - 2,List.mem_range.2 (by omega),by
  rw [show i + 1 + (l.length - 2) = i + l.length - 1 by omega]
  simpa using fun e=>hb e.symm⟩
 have hlt:=List.findIdx_lt_length_of_exists hex;have hle : (List.range l.length).findIdx (fun k=>gb l (i + 1 + k) != gb l i)≤l.length - 2:=by
  rw [List.length_range] at hlt;rcases Nat.lt_or_ge (l.length - 2) ((List.range l.length).findIdx (fun k=>gb l (i + 1 + k) != gb l i)) with h3 | h3
  ·exfalso
   have:=List.not_of_lt_findIdx h3;simp only [List.getElem_range,bne_eq_false_iff_eq,Bool.not_eq_true,Bool.not_eq_true'] at this;rw [show i + 1 + (l.length - 2) = i + l.length - 1 by omega] at this
   exact hb this.symm
  ·exact h3
 have hf:=List.findIdx_getElem (w:=hlt);refine ⟨by unfold lenT; omega,by unfold lenT; omega,fun k hk => ?_,?_⟩
 ·match k with
  | 0 => rfl
  | k + 1 =>
   unfold lenT at hk;have:=List.not_of_lt_findIdx (show k < (List.range l.length).findIdx (fun k=>gb l (i + 1 + k) != gb l i) by omega)
   simp at this;rw [show i + (k + 1) = i + 1 + k by omega]; exact this
 ·simp at hf
  unfold lenT;rw [← Nat.add_assoc]; exact hf
theorem LenIs.eq {l : List Bool} {i n m : Nat} (h : LenIs l i n) (h' : LenIs l i m) : n = m:=by
 rcases Nat.lt_trichotomy n m with h1 | h1 | h1
 ·exact absurd (h'.same n h1) h.other
 ·exact h1
 ·exact absurd (h.same m h1) h'.other
theorem LenIs.begs {l : List Bool} {i n : Nat} (h : LenIs l i n) : ∀ k,1≤k → k < n → Go.Abs.begs l (i + k) = false:=fun k h1 h2 => by
 have a:=h.same k h2;have b:=h.same (k - 1) (by omega)
 have e : gb l (i + k + l.length - 1) = gb l (i + (k - 1)):=by
  rw [show i + k + l.length - 1 = i + (k - 1) + l.length by omega,gb_add]
 unfold Go.Abs.begs;rw [e,a,b]; simp
theorem LenIs.end {l : List Bool} {i n : Nat} (h : LenIs l i n) : Go.Abs.begs l (i + n) = true:=by
 have b:=h.same (n - 1) (by have:=h.pos; omega)
 have e : gb l (i + n + l.length - 1) = gb l (i + (n - 1)):=by
  have:=h.pos;rw [show i + n + l.length - 1 = i + (n - 1) + l.length by omega,gb_add]
 unfold Go.Abs.begs;rw [e,b];simpa using h.other
theorem begs_mod (l : List Bool) (i : Nat) : begs l (i % l.length) = begs l i:=by
 rcases Nat.eq_zero_or_pos l.length with h | h
 ·rw [h,Nat.mod_zero]
 have hd:=Nat.div_add_mod i l.length;unfold begs;rw [gb_mod]
 congr 1
 unfold gb
 congr 1
 conv => rhs; rw [← hd]
 rw [show l.length * (i / l.length) + i % l.length + l.length - 1 = (i % l.length + l.length - 1) + l.length * (i / l.length) by omega,Nat.add_mul_mod_self_left]
theorem endless_iff {l : List Bool} (h : 0 < l.length) : ((List.range l.length).any (begs l)) = false ↔ ∀ i,gb l i = gb l 0:=by
 constructor
 ·intro hn
  have hs : ∀ i,i < l.length → gb l i = gb l 0:=by
   intro i;induction i with
   | zero => intro _; rfl
   | succ i ih =>
    intro hi;rw [List.any_eq_false] at hn;have:=hn (i + 1) (List.mem_range.2 hi);unfold begs at this;rw [show i + 1 + l.length - 1 = i + l.length by omega,gb_add] at this
    simp at this;rw [this]; exact ih (by omega)
  intro i;rw [← gb_mod l i];exact hs _ (Nat.mod_lt _ h)
 ·intro hs
  rw [List.any_eq_false];intro i _;unfold begs;rw [hs i,hs (i + l.length - 1)]; simp
structure RunT where
 first : Nat
 len : Nat
 up : Bool
def RunT.av (x : RunT) : AV:=.agg [iv (x.first : Int),iv (x.len : Int),.bool x.up]
def runAt (l : List Bool) (i : Nat) : RunT:=⟨i,lenT l i,gb l i⟩
def runsTo (l : List Bool) (i : Nat) : List RunT:=((List.range i).filter (begs l)).map (runAt l)
def runsFrom (l : List Bool) (i : Nat) : List RunT:=((List.range' i (l.length - i)).filter (begs l)).map (runAt l)
def anyTo (l : List Bool) (i : Nat) : Bool:=(List.range i).any (begs l)
def lastT (l : List Bool) : List RunT:=if anyTo l l.length then [] else [⟨0,1000,gb l 0⟩]
def runsT (l : List Bool) : List RunT:=runsTo l l.length ++ lastT l
theorem runsTo_succ (l : List Bool) (i : Nat) : runsTo l (i + 1) = runsTo l i ++ if begs l i then [runAt l i] else []:=by
 unfold runsTo;rw [List.range_succ,List.filter_append,List.map_append];cases h : begs l i <;> simp [h]
theorem anyTo_succ (l : List Bool) (i : Nat) : anyTo l (i + 1) = (anyTo l i || begs l i):=by
 unfold anyTo;rw [List.range_succ,List.any_append]; simp
theorem runsFrom_step {l : List Bool} {i : Nat} (h : i < l.length) : runsFrom l i = (if begs l i then [runAt l i] else []) ++ runsFrom l (i + 1):=by
 unfold runsFrom;rw [show l.length - i = (l.length - (i + 1)) + 1 by omega,List.range'_succ]
 cases hb : begs l i <;> simp [hb]
theorem runsFrom_end (l : List Bool) : runsFrom l l.length = []:=by
 unfold runsFrom; rw [Nat.sub_self]; rfl
theorem runsFrom_zero (l : List Bool) : runsFrom l 0 = runsTo l l.length:=by
 unfold runsFrom runsTo; rw [List.range_eq_range',Nat.sub_zero]
theorem anyTo_runs (l : List Bool) (i : Nat) : anyTo l i = false ↔ runsTo l i = []:=by
 unfold anyTo runsTo;rw [List.map_eq_nil_iff,List.filter_eq_nil_iff,List.any_eq_false]
end Go.Abs
set_option linter.all false
namespace Go.Abs
set_option maxRecDepth 10000
def rowTo (g : Nat → Bool) : Nat → Nat
 | 0 => 0
 | n + 1 => rowTo g n ||| (if g n then 2 ^ n else 0)
theorem rowTo_bit (g : Nat → Bool) (n j : Nat) : (rowTo g n).testBit j = (decide (j < n) && g j):=by
 induction n with
 | zero => simp [rowTo]
 | succ n ih =>
  unfold rowTo;rw [Nat.testBit_or,ih];by_cases hj : j = n
  ·subst hj
   cases hg : g j <;> simp [hg,Nat.testBit_two_pow]
  ·have hne : ¬ n = j:=fun e=>hj e.symm
   have e2 : (if g n then 2 ^ n else 0 : Nat).testBit j = false:=by
    cases hg : g n
    ·simp
    ·simp [Nat.testBit_two_pow,hne]
   rw [e2,Bool.or_false]
   congr 1
   by_cases h1 : j < n
   ·rw [decide_eq_true h1,decide_eq_true (by omega)]
   ·rw [decide_eq_false h1,decide_eq_false (by omega)]
theorem rowTo_lt (g : Nat → Bool) (n : Nat) : rowTo g n < 2 ^ n:=by
 induction n with
 | zero => simp [rowTo]
 | succ n ih =>
  unfold rowTo;have h1 : 2 ^ n < 2 ^ (n + 1):=Nat.pow_lt_pow_right (by omega) (by omega)
  refine Nat.or_lt_two_pow (by omega) ?_
  split
  ·exact h1
  ·exact Nat.pow_pos (by omega)
theorem row_eq {a b n : Nat} (ha : a < 2 ^ n) (hb : b < 2 ^ n) (h : ∀ j,j < n → a.testBit j = b.testBit j) : a = b:=by
 apply Nat.eq_of_testBit_eq;intro j;by_cases hj : j < n
 ·exact h j hj
 ·have hp : 2 ^ n≤2 ^ j:=Nat.pow_le_pow_right (by omega) (by omega)
  rw [Nat.testBit_lt_two_pow (Nat.lt_of_lt_of_le ha hp),Nat.testBit_lt_two_pow (Nat.lt_of_lt_of_le hb hp)]
theorem rowTo_self {r n : Nat} (h : r < 2 ^ n) : rowTo r.testBit n = r:=row_eq (rowTo_lt _ _) h fun j hj => by
 rw [rowTo_bit,decide_eq_true hj,Bool.true_and]
theorem rowTo_congr {g g' : Nat → Bool} {n : Nat} (h : ∀ j,j < n → g j = g' j) : rowTo g n = rowTo g' n:=row_eq (rowTo_lt _ _) (rowTo_lt _ _) fun j hj => by
 rw [rowTo_bit,rowTo_bit,h j hj]
theorem testBit_half (r h : Nat) : r.testBit h = decide (r / 2 ^ h % 2 = 1):=Nat.testBit_eq_decide_div_mod_eq
def rowOf (l : List Bool) : Nat:=l.foldr (fun b a => a * 2 + if b then 1 else 0) 0
theorem rowOf_cons (b : Bool) (l : List Bool) : rowOf (b :: l) = rowOf l * 2 + if b then 1 else 0:=rfl
theorem rowOf_lt (l : List Bool) : rowOf l < 2 ^ l.length:=by
 induction l with
 | nil => simp [rowOf]
 | cons b l ih =>
  rw [rowOf_cons,List.length_cons,Nat.pow_succ];split <;> omega
theorem rowOf_bit (l : List Bool) : ∀ j,(rowOf l).testBit j = l.getD j false:=by
 induction l with
 | nil => intro j; simp [rowOf]
 | cons b l ih =>
  intro j;rw [rowOf_cons]
  match j with
  | 0 => rw [Nat.testBit_zero]; cases b <;> simp <;> omega
  | j + 1 =>
   rw [Nat.testBit_succ];have : (rowOf l * 2 + if b then 1 else 0) / 2 = rowOf l:=by split <;> omega
   rw [this,ih]; simp
end Go.Abs
set_option linter.all false
namespace Go.Abs
set_option maxRecDepth 10000
def perAt (n : Nat) (P : Nat → Bool) (by' : Nat) : Bool:=decide (1≤by') && decide (n % by' = 0) && P by'
def perT (n : Nat) (P : Nat → Bool) : Nat:=((List.range n).find? (perAt n P)).getD n
theorem perT_at {n : Nat} {P : Nat → Bool} {i : Nat} (h : i < n) (hi : perAt n P i = true) (hn : ∀ j,j < i → perAt n P j = false) : perT n P = i:=by
 unfold perT;rw [show (List.range n).find? (perAt n P) = some i from ?_]
 ·rfl
 rw [List.find?_eq_some_iff_getElem];refine ⟨hi,i,by simpa using h,by simp,fun j hj => ?_⟩
 have:=hn j hj;simpa using this
theorem perT_no {n : Nat} {P : Nat → Bool} (hn : ∀ j,j < n → perAt n P j = false) : perT n P = n:=by
 unfold perT;rw [show (List.range n).find? (perAt n P) = none from ?_]
 ·rfl
 rw [List.find?_eq_none];intro j hj;rw [hn j (List.mem_range.1 hj)]; simp
theorem perT_in {n : Nat} {P : Nat → Bool} (h : 1≤n) : 1≤perT n P∧perT n P≤n:=by
 by_cases hx : ∀ j,j < n → perAt n P j = false
 ·rw [perT_no hx]; omega
 ·unfold perT
  cases hf : (List.range n).find? (perAt n P) with
  | none => simp; omega
  | some k =>
   have h1:=List.find?_some hf;have h2:=List.mem_range.1 (List.mem_of_find?_eq_some hf);unfold perAt at h1;simp only [Bool.and_eq_true,decide_eq_true_eq] at h1;simp; omega
theorem find_congr {α : Type} {l : List α} {p q : α → Bool} (h : ∀ x ∈ l,p x = q x) : l.find? p = l.find? q:=by
 induction l with
 | nil => rfl
 | cons a l ih => rw [List.find?_cons,List.find?_cons,h a (by simp),ih fun x hx => h x (by simp [hx])]
theorem perT_congr {n : Nat} {P Q : Nat → Bool} (h : ∀ k,1≤k → k < n → n % k = 0 → P k = Q k) : perT n P = perT n Q:=by
 unfold perT
 congr 1
 apply find_congr;intro k hk;have hk:=List.mem_range.1 hk;unfold perAt;by_cases h1 : 1≤k
 ·by_cases h2 : n % k = 0
  ·rw [h k h1 hk h2]
  ·rw [decide_eq_false h2]; simp
 ·rw [decide_eq_false h1]; simp
theorem period_iff {α : Type} {f : Nat → α} {n k : Nat} (hk : 1≤k) (hn : k < n) : (∀ i,i < n - k → f (i + k) = f i) ↔ ∀ i,i < n → f i = f (i % k):=by
 constructor
 ·intro h i
  induction i using Nat.strongRecOn with
  | ind i ih =>
   intro hi;rcases Nat.lt_or_ge i k with h1 | h1
   ·rw [Nat.mod_eq_of_lt h1]
   ·have:=h (i - k) (by omega)
    rw [show i - k + k = i by omega] at this
    rw [this,ih (i - k) (by omega) (by omega),Nat.mod_eq_sub_mod h1]
 ·intro h i hi
  rw [h (i + k) (by omega),h i (by omega),Nat.add_mod_right]
end Go.Abs
set_option linter.all false
namespace Go.Abs
set_option maxRecDepth 10000
set_option maxHeartbeats 8000000
structure FloatT where
 pick : Int
 hook : Int
 len : Int
 up : Bool
def FloatT.av (f : FloatT) : AV:=.agg [iv f.pick,iv f.hook,iv f.len,.bool f.up]
def mxStep (b : Bool) (m : Int) (f : FloatT) : Int:=if f.up = b then max m f.len else m
def mxF (b : Bool) (l : List FloatT) : Int:=l.foldl (mxStep b) 0
theorem mxF_take {b : Bool} {l : List FloatT} {i : Nat} (h : i < l.length) : mxF b (l.take (i + 1)) = mxStep b (mxF b (l.take i)) l[i]:=by
 unfold mxF;rw [List.take_succ_eq_append_getElem h,List.foldl_append]; rfl
def keyI : AV → Int
 | .int _ n => n
 | _ => 0
def e1L : AV × AV:=(iv 1,.agg [.ptr 128 0 0,.ptr 128 0 1])
def e2L : AV × AV:=(iv 2,.agg [.ptr 128 0 3,.ptr 128 0 2])
end Go.Abs
set_option linter.all false
namespace Go.Abs
set_option maxRecDepth 10000
def lengthT (l : List Bool) (a : Nat) : Nat:=if begs l a then lenT l a else if anyTo l l.length then 0 else if a = 0 then 1000 else 0
def refTo (l : List Bool) (b : Int) (k : Nat) : List RunT:=((List.range k).filter fun k=>decide (lengthT l k ≠ 0) && decide (b < lengthT l k)).map fun k=>⟨k,lengthT l k,gb l k⟩
theorem refTo_succ (l : List Bool) (b : Int) (k : Nat) : refTo l b (k + 1) = refTo l b k ++ if lengthT l k ≠ 0∧b < lengthT l k then [⟨k,lengthT l k,gb l k⟩] else []:=by
 unfold refTo;rw [List.range_succ,List.filter_append,List.map_append]
 congr 1
 by_cases h1 : lengthT l k ≠ 0 <;> by_cases h2 : b < lengthT l k <;> simp [h1,h2]
theorem refTo_eq {l : List Bool} (h : 0 < l.length) (b : Int) : refTo l b l.length = (runsT l).filter fun x=>decide (b < x.len):=by
 unfold refTo runsT lastT;cases ha : anyTo l l.length with
 | true =>
  rw [if_pos rfl,List.append_nil];unfold runsTo;rw [List.filter_map,List.filter_filter];have e : ∀ k,lengthT l k = if begs l k then lenT l k else 0:=fun k=>by
   unfold lengthT; rw [ha,if_pos rfl]
  have hp : ∀ k,begs l k = true → 1≤lenT l k:=fun k hk => (lenT_is hk).pos
  have e2 : ((List.range l.length).filter fun k=>decide (lengthT l k ≠ 0) && decide (b < lengthT l k)) = (List.range l.length).filter fun k=>((fun x : RunT => decide (b < x.len)) ∘ runAt l) k && begs l k:=by
   apply List.filter_congr;intro k _;rw [e];cases hb : begs l k with
   | true =>
    have:=hp k hb;rw [if_pos rfl];simp only [Function.comp,runAt,Bool.and_true,ne_eq];rw [decide_eq_true (show ¬ lenT l k = 0 by omega),Bool.true_and]
    rfl
   | false => simp
  rw [e2];apply List.map_congr_left;intro k hk;have hb : begs l k = true:=by
   have:=(List.mem_filter.1 hk).2;simp at this; exact this.2
  rw [e,hb,if_pos rfl]; rfl
 | false =>
  have h0:=(anyTo_runs l l.length).1 ha;rw [h0,if_neg (by simp),List.nil_append]
  have hb : ∀ k,k < l.length → begs l k = false:=fun k hk => by
   unfold anyTo at ha;rw [List.any_eq_false] at ha;simpa using ha k (List.mem_range.2 hk)
  have e : ∀ k,k < l.length → lengthT l k = if k = 0 then 1000 else 0:=fun k hk => by
   unfold lengthT; rw [ha,hb k hk]; simp
  have e2 : ((List.range l.length).filter fun k=>decide (lengthT l k ≠ 0) && decide (b < lengthT l k)) = (List.range l.length).filter fun k=>decide (k = 0) && decide (b < 1000):=by
   apply List.filter_congr;intro k hk;rw [e k (List.mem_range.1 hk)];by_cases hk0 : k = 0 <;> simp [hk0]
  rw [e2,show l.length = (l.length - 1) + 1 by omega,List.range_succ_eq_map,List.filter_cons]
  have e3 : (((List.range (l.length - 1)).map Nat.succ).filter fun k=>decide (k = 0) && decide (b < 1000)) = []:=by
   rw [List.filter_eq_nil_iff];intro k hk;obtain ⟨j,_,rfl⟩:=List.mem_map.1 hk;simp
  rw [e3];by_cases hb1 : b < 1000
  ·simp [hb1,e 0 h]
  ·simp [hb1]
def floatW (i : Nat) (x : RunT) : FloatT:=⟨i,x.first,x.len,x.up⟩
def floatH (i : Nat) (x : RunT) : FloatT:=⟨x.first,i,x.len,x.up⟩
def pickR (d : DesN) (i : Nat) : List Bool:=(List.range d.hk).map fun h=>(d.rows.getD i 0).testBit h
def hookR (d : DesN) (h : Nat) : List Bool:=d.rows.map fun r=>r.testBit h
theorem pickR_len (d : DesN) (i : Nat) : (pickR d i).length = d.hk:=by simp [pickR]
theorem hookR_len (d : DesN) (i : Nat) : (hookR d i).length = d.rows.length:=by simp [hookR]
def flTo (R : Nat → List Bool) (mk : Nat → RunT → FloatT) (i : Nat) : List FloatT:=(List.range i).flatMap fun i=>(runsT (R i)).map (mk i)
theorem flTo_succ (R : Nat → List Bool) (mk : Nat → RunT → FloatT) (i : Nat) : flTo R mk (i + 1) = flTo R mk i ++ (runsT (R i)).map (mk i):=by
 unfold flTo; rw [List.range_succ,List.flatMap_append]; simp
def flFrom (R : Nat → List Bool) (mk : Nat → RunT → FloatT) (i n : Nat) : List FloatT:=(List.range' i (n - i)).flatMap fun i=>(runsT (R i)).map (mk i)
theorem flFrom_step {R : Nat → List Bool} {mk : Nat → RunT → FloatT} {i n : Nat} (h : i < n) : flFrom R mk i n = (runsT (R i)).map (mk i) ++ flFrom R mk (i + 1) n:=by
 unfold flFrom;rw [show n - i = (n - (i + 1)) + 1 by omega,List.range'_succ,List.flatMap_cons]
theorem flFrom_zero (R : Nat → List Bool) (mk : Nat → RunT → FloatT) (n : Nat) : flFrom R mk 0 n = flTo R mk n:=by
 unfold flFrom flTo; rw [List.range_eq_range',Nat.sub_zero]
theorem flFrom_end (R : Nat → List Bool) (mk : Nat → RunT → FloatT) (n : Nat) : flFrom R mk n n = []:=by
 unfold flFrom; rw [Nat.sub_self]; rfl
def weftF (d : DesN) : List FloatT:=flTo (pickR d) floatW d.rows.length
def warpF (d : DesN) : List FloatT:=flTo (hookR d) floatH d.hk
end Go.Abs
set_option linter.all false
namespace Go.Abs
set_option maxRecDepth 10000
def sameP (d : DesN) (k : Nat) : Bool:=decide (d.rows.drop k = d.rows.take (d.rows.length - k))
def sameRow (hk k r : Nat) : Bool:=decide (r >>> k = r &&& (2 ^ (hk - k) - 1))
def sameH (d : DesN) (k : Nat) : Bool:=d.rows.all (sameRow d.hk k)
def leastP (d : DesN) : Nat:=perT d.rows.length (sameP d)
def leastH (d : DesN) : Nat:=perT d.hk (sameH d)
def wholeR (R : Nat → List Bool) (n k : Nat) : Bool:=(List.range n).all fun i=>decide (R i = R (i % k))
theorem wholeR_iff {R : Nat → List Bool} {n k : Nat} : wholeR R n k = true ↔ ∀ i,i < n → R i = R (i % k):=by
 unfold wholeR;simp
theorem whole_self (R : Nat → List Bool) (n : Nat) : wholeR R n n = true:=wholeR_iff.2 fun i hi => by rw [Nat.mod_eq_of_lt hi]
theorem rows_get {d : DesN} {i : Nat} (h : i < d.rows.length) : d.rows.getD i 0 = d.rows[i]:=by
 rw [List.getD_eq_getElem?_getD,List.getElem?_eq_getElem h]; rfl
theorem pickR_get {d : DesN} {i h : Nat} (hh : h < d.hk) : (pickR d i)[h]'(by rw [pickR_len]; exact hh) = (d.rows.getD i 0).testBit h:=by
 simp [pickR]
theorem hookR_get {d : DesN} {i h : Nat} (hi : i < d.rows.length) : (hookR d h)[i]'(by rw [hookR_len]; exact hi) = (d.rows.getD i 0).testBit h:=by
 simp [hookR,List.getElem?_eq_getElem hi]
theorem pickR_inj {d : DesN} (hd : d.Ok) {i j : Nat} (hi : i < d.rows.length) (hj : j < d.rows.length) : pickR d i = pickR d j ↔ d.rows[i] = d.rows[j]:=by
 constructor
 ·intro h
  have h1:=hd.lt _ (List.getElem_mem hi);have h2:=hd.lt _ (List.getElem_mem hj);refine row_eq h1 h2 fun k hk => ?_
  have e1:=pickR_get (d:=d) (i:=i) hk;have e2:=pickR_get (d:=d) (i:=j) hk;rw [rows_get hi] at e1;rw [rows_get hj] at e2;rw [← e1,← e2]
  congr 1
 ·intro h
  unfold pickR;rw [rows_get hi,rows_get hj,h]
theorem sameP_iff {d : DesN} (hd : d.Ok) {k : Nat} (h1 : 1≤k) (hk : k < d.rows.length) : sameP d k = wholeR (pickR d) d.rows.length k:=by
 have key : sameP d k = true ↔ wholeR (pickR d) d.rows.length k = true:=by
  rw [wholeR_iff,← period_iff h1 hk];unfold sameP;rw [decide_eq_true_eq];constructor
  ·intro h i hi
   have e : (d.rows.drop k)[i]? = (d.rows.take (d.rows.length - k))[i]?:=by rw [h]
   rw [List.getElem?_drop,List.getElem?_take,if_pos hi,List.getElem?_eq_getElem (by omega),List.getElem?_eq_getElem (by omega),Option.some.injEq] at e
   rw [pickR_inj hd (by omega) (by omega),← e]
   congr 1; omega
  ·intro h
   apply List.ext_getElem
   ·simp
   ·intro i hi1 hi2
    rw [List.getElem_drop,List.getElem_take];simp at hi1;have:=(pickR_inj hd (i:=i + k) (j:=i) (by omega) (by omega)).1 (h i (by omega))
    rw [← this]
    congr 1; omega
 cases h : sameP d k <;> cases h' : wholeR (pickR d) d.rows.length k <;> simp_all
theorem leastP_eq {d : DesN} (hd : d.Ok) : leastP d = perT d.rows.length (wholeR (pickR d) d.rows.length) :=
 perT_congr fun k h1 h2 _ => sameP_iff hd h1 h2
theorem sameRow_iff {hk k r : Nat} (hr : r < 2 ^ hk) (hlt : k < hk) : sameRow hk k r = true ↔ ∀ j,j < hk - k → r.testBit (j + k) = r.testBit j:=by
 unfold sameRow;rw [decide_eq_true_eq];constructor
 ·intro h j hj
  have:=congrArg (fun x=>Nat.testBit x j) h
  simp only [Nat.testBit_shiftRight,Nat.testBit_and,Nat.testBit_two_pow_sub_one,decide_eq_true hj,Bool.and_true] at this;rw [Nat.add_comm]; exact this
 ·intro h
  apply Nat.eq_of_testBit_eq;intro j;rw [Nat.testBit_shiftRight,Nat.testBit_and,Nat.testBit_two_pow_sub_one];by_cases hj : j < hk - k
  ·rw [decide_eq_true hj,Bool.and_true,Nat.add_comm]; exact h j hj
  ·rw [decide_eq_false hj,Bool.and_false]
   have hp : 2 ^ hk≤2 ^ (k + j):=Nat.pow_le_pow_right (by omega) (by omega)
   exact Nat.testBit_lt_two_pow (Nat.lt_of_lt_of_le hr hp)
theorem sameH_iff {d : DesN} (hd : d.Ok) {k : Nat} (h1 : 1≤k) (hk : k < d.hk) : sameH d k = wholeR (hookR d) d.hk k:=by
 have key : sameH d k = true ↔ wholeR (hookR d) d.hk k = true:=by
  rw [wholeR_iff,← period_iff h1 hk];unfold sameH;rw [List.all_eq_true];constructor
  ·intro h j hj
   unfold hookR;exact List.map_congr_left fun r hr => (sameRow_iff (hd.lt r hr) hk).1 (h r hr) j hj
  ·intro h r hr
   refine (sameRow_iff (hd.lt r hr) hk).2 fun j hj => ?_
   have:=h j hj;unfold hookR at this;exact List.map_inj_left.1 this r hr
 cases h : sameH d k <;> cases h' : wholeR (hookR d) d.hk k <;> simp_all
theorem leastH_eq {d : DesN} (hd : d.Ok) : leastH d = perT d.hk (wholeR (hookR d) d.hk) :=
 perT_congr fun k h1 h2 _ => sameH_iff hd h1 h2
end Go.Abs
set_option linter.all false
namespace Go.Abs
set_option maxRecDepth 10000
set_option maxHeartbeats 2000000
def largeT (l : List DesA) : Bool:=l.any fun d=>decide (70 < d.rows.length)
def likeT (a b : DesA) : Bool:=decide (a.hk = b.hk) && decide (a.rows.length = b.rows.length)
def sameT (a b : DesA) : Bool:=decide (a.hk = b.hk) && decide (a.rows = b.rows)
end Go.Abs
set_option linter.all false
namespace Go.Abs
set_option maxRecDepth 10000
set_option maxHeartbeats 2000000
def ringV (l : List Bool) : AV:=.list 1 (l.map fun b=>.bool b)
def tabV (t : List (List Bool)) : List AV:=t.map ringV
@[go_sem] theorem bool_plain (l : List Bool) : (l.map fun b=>AV.bool b).all AV.plain = true:=by
 simp [AV.plain,AV.plain1]
def ptsT (r n : Nat) : List Bool:=(List.range n).map fun h=>r.testBit h
def tabN (d : DesN) (k : Nat) : List (List Bool):=(d.rows.take k).map fun r=>ptsT r d.hk
def overT (t : List (List Bool)) (n : Nat) : List (List Bool):=(List.range n).map fun h=>t.map fun l=>l.getD h false
def wholeT (t : List (List Bool)) (k : Nat) : Bool:=decide (t.length % k = 0) && wholeR (fun i=>t.getD i []) t.length k
end Go.Abs
set_option linter.all false
namespace Go.Abs
set_option maxRecDepth 10000
set_option maxHeartbeats 2000000
theorem ring_get {l : List Bool} {i : Nat} (h : 0 < l.length) : (l.map fun b=>AV.bool b)[i % l.length]? = some (.bool (gb l i)):=by
 rw [List.getElem?_map,gb_get h]; rfl
theorem ring_at {l : List Bool} {i : Nat} (h : i < l.length) : (l.map fun b=>AV.bool b)[i]? = some (.bool (gb l i)):=by
 have:=ring_get (l:=l) (i:=i) (by omega)
 rwa [Nat.mod_eq_of_lt h] at this
def runV (x : RunT) : List AV:=[x.av]
theorem begs_pos {l : List Bool} (i : Nat) (h0 : 0 < l.length) : begs l (i % l.length) = begs l i:=begs_mod l i
theorem run_beq (x : RunT) : AV.beqL [x.av] [x.av] = true:=by
 unfold RunT.av;simp [AV.beqL,AV.beq]
end Go.Abs
set_option linter.all false
namespace Go.Abs
set_option maxRecDepth 10000
set_option maxHeartbeats 2000000
abbrev natsV (l : List Nat) : List AV:=l.map fun n : Nat => iv (n : Int)
theorem nats_at {l : List Nat} {i : Nat} (h : i < l.length) : (natsV l)[i]? = some (iv ((l.getD i 0 : Nat) : Int)):=by
 unfold natsV;rw [List.getElem?_map,List.getElem?_eq_getElem h,List.getD_eq_getElem?_getD,List.getElem?_eq_getElem h]; rfl
theorem bit_eq (r h : Nat) : decide (((r >>> h &&& 1 : Nat) : Int) = 1) = r.testBit h:=by
 rw [shr_and1];cases r.testBit h <;> simp
end Go.Abs
set_option linter.all false
namespace Go.Abs
set_option maxRecDepth 10000
set_option maxHeartbeats 4000000
def atN (d : DesN) (p h : Nat) : Bool:=(d.rows.getD (p % d.rows.length) 0).testBit (h % d.hk)
theorem atN_pick {d : DesN} (hd : d.Ok) {p h : Nat} (hp : p < d.rows.length) : gb (pickR d p) h = atN d p h:=by
 unfold gb atN;have:=hd.h1;have hm:=Nat.mod_lt h (show 0 < d.hk by omega)
 rw [pickR_len,List.getD_eq_getElem?_getD,List.getElem?_eq_getElem (by rw [pickR_len]; exact hm),pickR_get hm,Nat.mod_eq_of_lt hp]; rfl
theorem atN_hook {d : DesN} (hd : d.Ok) {p h : Nat} (hh : h < d.hk) : gb (hookR d h) p = atN d p h:=by
 unfold gb atN;have:=hd.r1;have hm:=Nat.mod_lt p (show 0 < d.rows.length by omega)
 rw [hookR_len,List.getD_eq_getElem?_getD,List.getElem?_eq_getElem (by rw [hookR_len]; exact hm),hookR_get hm,Nat.mod_eq_of_lt hh]; rfl
theorem atN_mod {d : DesN} {p p' h h' : Nat} (hp : p % d.rows.length = p' % d.rows.length) (hh : h % d.hk = h' % d.hk) : atN d p h = atN d p' h':=by
 unfold atN; rw [hp,hh]
def desV (d : DesN) : AV:=.agg [iv (d.hk : Int),.list 1 (natsV d.rows)]
end Go.Abs
