/-
 Several texts: LB6, LB7, LB8, LB9, LC1, LC2.
-/
import Derived.Test.YtlcikiobkmajbaaLB5
import Derived.Test.YtlcikiobkmajbaaEvI
import Derived.Test.YtlcikiobkmajbaaV0
set_option linter.all false
namespace Go.Abs
set_option maxRecDepth 10000
set_option maxHeartbeats 4000000
open Go.Abs.Lo (OrdA MillA FixA beg chg never canP Path)
def bitsTo (s i : Nat) : List Nat:=(List.range i).filter fun j=>s.testBit j
def numsL (s : Nat) : List Nat:=bitsTo s 7
theorem bitsTo_succ (s i : Nat) : bitsTo s (i + 1) = bitsTo s i ++ if s.testBit i = true then [i] else []:=by
 unfold bitsTo;rw [List.range_succ,List.filter_append];cases h : s.testBit i <;> simp [h]
theorem bitsTo_all {s i : Nat} (h7 : s < 128) (h : s >>> i = 0) (hi : i≤7) : bitsTo s i = numsL s:=by
 have key : ∀ d,bitsTo s (i + d) = bitsTo s i:=by
  intro d;induction d with
  | zero => rfl
  | succ d ih =>
   have : s.testBit (i + d) = false:=by
    apply Nat.testBit_lt_two_pow;have h1 : s < 2 ^ i:=by
     rw [Nat.shiftRight_eq_div_pow] at h;rcases Nat.lt_or_ge s (2 ^ i) with h2 | h2
     ·exact h2
     ·have:=Nat.div_pos h2 (Nat.pow_pos (n:=i) (show 0 < 2 by omega))
      omega
    exact Nat.lt_of_lt_of_le h1 (Nat.pow_le_pow_right (by omega) (by omega))
   rw [← Nat.add_assoc,bitsTo_succ,this,ih];simp
 have:=key (7 - i);rw [show i + (7 - i) = 7 by omega] at this
 exact this.symm
theorem bitsTo_len (s i : Nat) : (bitsTo s i).length≤i:=by
 have:=List.length_filter_le (fun j=>s.testBit j) (List.range i)
 rwa [List.length_range] at this
theorem numbers_ok (s : Nat) (h : s < 128) : lim F 81 [iv (s : Int)] = some (.own 1 (natsV (numsL s)),[]):=by
 have hst:=bitsTo_succ s;have hle:=bitsTo_len s;refine Yr (fn:=a81) (k:=1) (res:=[.tmp 2]) rfl rfl rfl (by simp -implicitDefEqProofs(maxSteps:=9^7)(disch:=first|exact Yo rfl|omega|(simp only[go_sem]<;>omega)|fail)only[go_sem]) ?_
 try delta mvA
 try delta opA
 try delta tA
 simp -implicitDefEqProofs(maxSteps:=9^7)(disch:=first|exact Yo rfl|omega|(simp only[go_sem]<;>omega)|fail)only[go_sem]
 repeat(first|apply Ya|apply Yb|apply Yc|((first|apply Yd|apply Ye|apply Yf|apply Yg|apply Yh);simp -implicitDefEqProofs(maxSteps:=9^7)(disch:=first|exact Yo rfl|omega|(simp only[go_sem]<;>omega)|fail)only[go_sem]<;>try with_reducible rfl)|apply Yi|apply Yj|apply Yk|apply Yl|apply Ym|apply Yn)
 apply Yt 7 (fun i=>⟨[(0,iv (s : Int)),(2,.slice 128 0 (bitsTo s i).length),(3,iv (i : Int))],[(128,.arr 1 (natsV (bitsTo s i)))],[],10000000⟩) (fun _=>True)
 ·simp -implicitDefEqProofs(maxSteps:=9^7)(disch:=first|exact Yo rfl|omega|(simp only[go_sem]<;>omega)|fail)only[go_sem,norm_eq,Ok.some]
  rfl
 ·trivial
 intro i hi _;have n1 : (natsV (bitsTo s i)).length = (bitsTo s i).length:=by simp
 have t1 : (natsV (bitsTo s i)).take (bitsTo s i).length = natsV (bitsTo s i):=List.take_of_length_le (by omega)
 have p1:=nat_plain (bitsTo s i);have sl:=hle i;have sr:=w_shr s i (by omega)
 have hlt : s >>> i≤s:=by rw [Nat.shiftRight_eq_div_pow]; exact Nat.div_le_self _ _
 have s2:=w_and1 (s >>> i) (by omega)
 have s3:=shr_and1 s i;have hz : s >>> i = 0 → bitsTo s i = numsL s:=fun hz=>bitsTo_all h hz hi
 have h7 : i = 7 → s >>> i = 0:=fun e=>by
  subst e;rw [Nat.shiftRight_eq_div_pow];exact Nat.div_eq_of_lt (by omega)
 generalize s >>> i &&& 1 = bb at *;generalize s >>> i = q at *;by_cases c0 : q = 0
 ·rw [← hz c0]
  subst c0;change (natsV (bitsTo s i)).all AV.plain = true at p1;generalize natsV (bitsTo s i) = L at *;repeat(first|apply Ya|apply Yb|apply Yc|((first|apply Yd|apply Ye|apply Yf|apply Yg|apply Yh);simp -implicitDefEqProofs(maxSteps:=9^7)(disch:=first|exact Yo rfl|omega|(simp only[go_sem]<;>omega)|fail)only[go_sem,sr,n1,t1,p1,Int.lt_irrefl,show ¬ (0 : Int) < ((0 : Nat) : Int) by omega]<;>try with_reducible rfl)|apply Yi|apply Yj|apply Yk|apply Yl|apply Ym|apply Yn)
 ·rw [hst i]
  by_cases cb : s.testBit i = true
  ·rw [if_pos cb] at s3 ⊢
   subst s3;have e1 : natsV (bitsTo s i ++ [i]) = natsV (bitsTo s i) ++ [iv (i : Int)]:=by unfold natsV; rw [List.map_append]; rfl
   rw [e1,List.length_append];generalize natsV (bitsTo s i) = L at *;generalize (bitsTo s i).length = n at *;repeat(first|apply Ya|apply Yb|apply Yc|((first|apply Yd|apply Ye|apply Yf|apply Yg|apply Yh);simp -implicitDefEqProofs(maxSteps:=9^7)(disch:=first|exact Yo rfl|omega|(simp only[go_sem]<;>omega)|fail)only[go_sem,sr,s2,n1,t1,show (0 : Int) < (q : Int) by omega,show ((1 : Nat) : Int) = 1 from rfl]<;>try with_reducible rfl)|apply Yi|apply Yj|apply Yk|apply Yl|apply Ym|apply Yn)
   apply Ys
   ·simp -implicitDefEqProofs(maxSteps:=9^7)(disch:=first|exact Yo rfl|omega|(simp only[go_sem]<;>omega)|fail)only[go_sem,norm_eq,Ok.some]; with_reducible rfl
   exact ⟨by omega,by simp,trivial⟩
  ·rw [if_neg cb] at s3 ⊢
   subst s3;rw [List.append_nil];repeat(first|apply Ya|apply Yb|apply Yc|((first|apply Yd|apply Ye|apply Yf|apply Yg|apply Yh);simp -implicitDefEqProofs(maxSteps:=9^7)(disch:=first|exact Yo rfl|omega|(simp only[go_sem]<;>omega)|fail)only[go_sem,sr,s2,show (0 : Int) < (q : Int) by omega,show ¬ ((0 : Nat) : Int) = 1 by omega]<;>try with_reducible rfl)|apply Yi|apply Yj|apply Yk|apply Yl|apply Ym|apply Yn)
   apply Ys
   ·simp -implicitDefEqProofs(maxSteps:=9^7)(disch:=first|exact Yo rfl|omega|(simp only[go_sem]<;>omega)|fail)only[go_sem,norm_eq,Ok.some]; with_reducible rfl
   exact ⟨by omega,by simp,trivial⟩
def subF : Nat → Nat → Nat → List Nat
 | 0,_,_ => []
 | n + 1,s,p => p :: if p = 0 then [] else subF n s ((p - 1) &&& s)
def subL (s p : Nat) : List Nat:=subF (p + 1) s p
theorem subF_more (s : Nat) : ∀ p n n',p < n → p < n' → subF n s p = subF n' s p:=by
 intro p;induction p using Nat.strongRecOn with
 | _ p ih =>
  intro n n' h h';obtain ⟨n,rfl⟩ : ∃ k,n = k + 1:=⟨n - 1,by omega⟩
  obtain ⟨n',rfl⟩ : ∃ k,n' = k + 1:=⟨n' - 1,by omega⟩
  unfold subF;by_cases h0 : p = 0
  ·rw [if_pos h0,if_pos h0]
  ·have hq : (p - 1) &&& s≤p - 1:=Nat.and_le_left
   rw [if_neg h0,if_neg h0,ih _ (by omega) n n' (by omega) (by omega)]
theorem sub_step (s p : Nat) : subL s p = p :: if p = 0 then [] else subL s ((p - 1) &&& s):=by
 unfold subL;rw [subF];by_cases h0 : p = 0
 ·rw [if_pos h0,if_pos h0]
 ·have hq : (p - 1) &&& s≤p - 1:=Nat.and_le_left
  rw [if_neg h0,if_neg h0,subF_more s _ p _ (by omega) (Nat.lt_succ_self _)]
theorem sub_mem : ∀ s,s < 64 → ∀ x,x < 64 → (x ∈ subL s s ↔ x &&& s = x):=by decide +kernel
theorem sub_lt {s : Nat} : ∀ p,∀ x ∈ subL s p,x≤p:=by
 intro p;induction p using Nat.strongRecOn with
 | _ p ih =>
  intro x hx;rw [sub_step] at hx;rcases List.mem_cons.1 hx with rfl | hx
  ·exact Nat.le_refl _
  ·by_cases h0 : p = 0
   ·rw [if_pos h0] at hx; cases hx
   ·rw [if_neg h0] at hx
    have hq : (p - 1) &&& s≤p - 1:=Nat.and_le_left;have:=ih _ (by omega) x hx
    omega
def subE (p : Nat) : List AV:=[iv (p : Int)]
theorem subsets_fun (s : Nat) : lim F 80 [iv (s : Int)] = some (.func 117 [.iptr (.agg [iv (s : Int)]) 0],[]):=by
 refine Yr (fn:=a80) (k:=1) (res:=[.tmp 2]) rfl rfl rfl (by simp -implicitDefEqProofs(maxSteps:=9^7)(disch:=first|exact Yo rfl|omega|(simp only[go_sem]<;>omega)|fail)only[go_sem]) ?_
 try delta mvA
 try delta opA
 try delta tA
 simp -implicitDefEqProofs(maxSteps:=9^7)(disch:=first|exact Yo rfl|omega|(simp only[go_sem]<;>omega)|fail)only[go_sem]
 repeat(first|apply Ya|apply Yb|apply Yc|((first|apply Yd|apply Ye|apply Yf|apply Yg|apply Yh);simp -implicitDefEqProofs(maxSteps:=9^7)(disch:=first|exact Yo rfl|omega|(simp only[go_sem]<;>omega)|fail)only[go_sem]<;>try with_reducible rfl)|apply Yi|apply Yj|apply Yk|apply Yl|apply Ym|apply Yn)
theorem sub_guess (s : Nat) (hs : s < 128) : lim F 117 [.ylog none [],.iptr (.agg [iv (s : Int)]) 0] = some (.tuple [],[.ylog none ((subL s s).map subE)]):=by
 refine Yr (fn:=a117) (k:=2) (res:=[]) rfl rfl rfl (by simp -implicitDefEqProofs(maxSteps:=9^7)(disch:=first|exact Yo rfl|omega|(simp only[go_sem]<;>omega)|fail)only[go_sem]) ?_
 try delta mvA
 try delta opA
 try delta tA
 simp -implicitDefEqProofs(maxSteps:=9^7)(disch:=first|exact Yo rfl|omega|(simp only[go_sem]<;>omega)|fail)only[go_sem]
 repeat(first|apply Ya|apply Yb|apply Yc|((first|apply Yd|apply Ye|apply Yf|apply Yg|apply Yh);simp -implicitDefEqProofs(maxSteps:=9^7)(disch:=first|exact Yo rfl|omega|(simp only[go_sem]<;>omega)|fail)only[go_sem]<;>try with_reducible rfl)|apply Yi|apply Yj|apply Yk|apply Yl|apply Ym|apply Yn)
 apply Wp.loopM (fun p fr => ∃ B,p < 128∧B ++ (subL s p).map subE = (subL s s).map subE∧fr = ⟨[(0,.yieldT 200000),(1,.iptr (.agg [iv (s : Int)]) 0),(3,iv (p : Int))],[(200000,.num 3500000),(3500000,.log none B)],[(200000,none)],10000000⟩)
 ·simp -implicitDefEqProofs(maxSteps:=9^7)(disch:=first|exact Yo rfl|omega|(simp only[go_sem]<;>omega)|fail)only[go_sem,norm_eq,Ok.some]
  exact ⟨s,[],hs,rfl,rfl⟩
 rintro p fr ⟨B,hp,hB,rfl⟩;rw [sub_step] at hB;by_cases h0 : p = 0
 ·subst h0
  rw [if_pos rfl] at hB;simp only [List.map_cons,List.map_nil,subE] at hB;repeat(first|apply Ya|apply Yb|apply Yc|((first|apply Yd|apply Ye|apply Yf|apply Yg|apply Yh);simp -implicitDefEqProofs(maxSteps:=9^7)(disch:=first|exact Yo rfl|omega|(simp only[go_sem]<;>omega)|fail)only[go_sem,show ((0 : Nat) : Int) = 0 from rfl]<;>try with_reducible rfl)|apply Yi|apply Yj|apply Yk|apply Yl|apply Ym|apply Yn)
  rw [← hB];rfl
 ·rw [if_neg h0,List.map_cons] at hB
  have hq : (p - 1) &&& s≤p - 1:=Nat.and_le_left;have wa:=w_and (p - 1) s (by omega) (by omega)
  have ep : (p : Int) - 1 = ((p - 1 : Nat) : Int):=by omega
  repeat(first|apply Ya|apply Yb|apply Yc|((first|apply Yd|apply Ye|apply Yf|apply Yg|apply Yh);simp -implicitDefEqProofs(maxSteps:=9^7)(disch:=first|exact Yo rfl|omega|(simp only[go_sem]<;>omega)|fail)only[go_sem,show ¬ (p : Int) = 0 by omega,ep,wa]<;>try with_reducible rfl)|apply Yi|apply Yj|apply Yk|apply Yl|apply Ym|apply Yn)
  apply Ys
  ·simp -implicitDefEqProofs(maxSteps:=9^7)(disch:=first|exact Yo rfl|omega|(simp only[go_sem]<;>omega)|fail)only[go_sem,norm_eq,Ok.some]; with_reducible rfl
  exact ⟨(p - 1) &&& s,by omega,B ++ [[iv (p : Int)]],by omega,by rw [← hB]; simp [subE],by simp⟩
theorem sub_check (s : Nat) (hs : s < 128) : lim F 117 [.ylog (some 0) ((subL s s).map subE),.iptr (.agg [iv (s : Int)]) 0] = some (.tuple [],[.ylog (some 0) []]):=by
 refine Yr (fn:=a117) (k:=2) (res:=[]) rfl rfl rfl (by simp -implicitDefEqProofs(maxSteps:=9^7)(disch:=first|exact Yo rfl|omega|(simp only[go_sem]<;>omega)|fail)only[go_sem]) ?_
 try delta mvA
 try delta opA
 try delta tA
 simp -implicitDefEqProofs(maxSteps:=9^7)(disch:=first|exact Yo rfl|omega|(simp only[go_sem]<;>omega)|fail)only[go_sem]
 repeat(first|apply Ya|apply Yb|apply Yc|((first|apply Yd|apply Ye|apply Yf|apply Yg|apply Yh);simp -implicitDefEqProofs(maxSteps:=9^7)(disch:=first|exact Yo rfl|omega|(simp only[go_sem]<;>omega)|fail)only[go_sem]<;>try with_reducible rfl)|apply Yi|apply Yj|apply Yk|apply Yl|apply Ym|apply Yn)
 apply Wp.loopM (fun p fr => p < 128∧fr = ⟨[(0,.yieldT 200000),(1,.iptr (.agg [iv (s : Int)]) 0),(3,iv (p : Int))],[(200000,.num 3500000),(3500000,.log (some 0) ((subL s p).map subE))],[(200000,none)],10000000⟩)
 ·simp -implicitDefEqProofs(maxSteps:=9^7)(disch:=first|exact Yo rfl|omega|(simp only[go_sem]<;>omega)|fail)only[go_sem,norm_eq,Ok.some]
  exact ⟨s,hs,rfl⟩
 rintro p fr ⟨hp,rfl⟩;rw [sub_step];by_cases h0 : p = 0
 ·subst h0
  rw [if_pos rfl];simp only [List.map_cons,List.map_nil,subE];have hq : AV.beqL [iv 0] [iv 0] = true:=by simp [AV.beqL,AV.beq]
  repeat(first|apply Ya|apply Yb|apply Yc|((first|apply Yd|apply Ye|apply Yf|apply Yg|apply Yh);simp -implicitDefEqProofs(maxSteps:=9^7)(disch:=first|exact Yo rfl|omega|(simp only[go_sem]<;>omega)|fail)only[go_sem,show ((0 : Nat) : Int) = 0 from rfl,hq]<;>try with_reducible rfl)|apply Yi|apply Yj|apply Yk|apply Yl|apply Ym|apply Yn)
 ·rw [if_neg h0,List.map_cons]
  have e0 : subE p = [iv (p : Int)]:=rfl;rw [e0];have hle : (p - 1) &&& s≤p - 1:=Nat.and_le_left;have wa:=w_and (p - 1) s (by omega) (by omega)
  have ep : (p : Int) - 1 = ((p - 1 : Nat) : Int):=by omega
  have hq : AV.beqL [iv (p : Int)] [iv (p : Int)] = true:=by simp [AV.beqL,AV.beq]
  generalize hL : (subL s ((p - 1) &&& s)).map subE = L at *;repeat(first|apply Ya|apply Yb|apply Yc|((first|apply Yd|apply Ye|apply Yf|apply Yg|apply Yh);simp -implicitDefEqProofs(maxSteps:=9^7)(disch:=first|exact Yo rfl|omega|(simp only[go_sem]<;>omega)|fail)only[go_sem,show ¬ (p : Int) = 0 by omega,ep,wa,hq]<;>try with_reducible rfl)|apply Yi|apply Yj|apply Yk|apply Yl|apply Ym|apply Yn)
  apply Ys
  ·simp -implicitDefEqProofs(maxSteps:=9^7)(disch:=first|exact Yo rfl|omega|(simp only[go_sem]<;>omega)|fail)only[go_sem,norm_eq,Ok.some]; with_reducible rfl
  exact ⟨(p - 1) &&& s,by omega,by omega,by rw [hL]⟩
end Go.Abs
set_option linter.all false
namespace Go.Abs
set_option maxRecDepth 10000
set_option maxHeartbeats 8000000
open Go.Abs.Lo (OrdA MillA FixA beg chg never canP Path Tog loomsR)
theorem looms_ok (m : MillA) (hm : m.Ok) : lim F 38 [millV m] = some (.own 1 (natsV (List.range m.ws.length)),[]):=by
 have l1:=hm.l1;have hn:=numbers_ok (2 ^ m.ws.length - 1) (by
  have : 2 ^ m.ws.length≤2 ^ 3:=Nat.pow_le_pow_right (by omega) l1.2
  omega)
 have e : numsL (2 ^ m.ws.length - 1) = List.range m.ws.length:=by
  have : m.ws.length = 1 ∨ m.ws.length = 2 ∨ m.ws.length = 3:=by omega
  rcases this with h | h | h <;> rw [h] <;> decide +kernel
 rw [e] at hn;have hp:=Nat.pow_pos (n:=m.ws.length) (show 0 < 2 by omega)
 have hp2 : 2 ^ m.ws.length≤2 ^ 3:=Nat.pow_le_pow_right (by omega) l1.2
 have sh:=w_shl1 m.ws.length (by omega)
 have lw:=wid_len m;have es : ((2 ^ m.ws.length : Nat) : Int) - 1 = ((2 ^ m.ws.length - 1 : Nat) : Int):=by omega
 unfold millV;generalize 2 ^ m.ws.length - 1 = q at *;generalize 2 ^ m.ws.length = N at *;generalize ordsV m = os at *;generalize widV m = ws at *;generalize natsV (List.range m.ws.length) = R at *;refine Yr (fn:=a38) (k:=1) (res:=[.tmp 2]) rfl rfl rfl (by simp -implicitDefEqProofs(maxSteps:=9^7)(disch:=first|exact Yo rfl|omega|(simp only[go_sem]<;>omega)|fail)only[go_sem]) ?_
 try delta mvA
 try delta opA
 try delta tA
 simp -implicitDefEqProofs(maxSteps:=9^7)(disch:=first|exact Yo rfl|omega|(simp only[go_sem]<;>omega)|fail)only[go_sem]
 repeat(first|apply Ya|apply Yb|apply Yc|((first|apply Yd|apply Ye|apply Yf|apply Yg|apply Yh);simp -implicitDefEqProofs(maxSteps:=9^7)(disch:=first|exact Yo rfl|omega|(simp only[go_sem]<;>omega)|fail)only[go_sem,lw,sh,es,hn]<;>try with_reducible rfl)|apply Yi|apply Yj|apply Yk|apply Yl|apply Ym|apply Yn)
theorem all_ok (m : MillA) (hm : m.Ok) : lim F 39 [millV m] = some (iv ((2 ^ m.os.length - 1 : Nat) : Int),[]):=by
 have n6:=hm.n6;have hp:=Nat.pow_pos (n:=m.os.length) (show 0 < 2 by omega)
 have hp2 : 2 ^ m.os.length≤2 ^ 6:=Nat.pow_le_pow_right (by omega) n6
 have sh:=w_shl1 m.os.length (by omega)
 have lw:=ord_len m;have es : ((2 ^ m.os.length : Nat) : Int) - 1 = ((2 ^ m.os.length - 1 : Nat) : Int):=by omega
 unfold millV;generalize 2 ^ m.os.length - 1 = q at *;generalize 2 ^ m.os.length = N at *;generalize ordsV m = os at *;generalize widV m = ws at *;refine Yr (fn:=a39) (k:=1) (res:=[.tmp 2]) rfl rfl rfl (by simp -implicitDefEqProofs(maxSteps:=9^7)(disch:=first|exact Yo rfl|omega|(simp only[go_sem]<;>omega)|fail)only[go_sem]) ?_
 try delta mvA
 try delta opA
 try delta tA
 simp -implicitDefEqProofs(maxSteps:=9^7)(disch:=first|exact Yo rfl|omega|(simp only[go_sem]<;>omega)|fail)only[go_sem]
 repeat(first|apply Ya|apply Yb|apply Yc|((first|apply Yd|apply Ye|apply Yf|apply Yg|apply Yh);simp -implicitDefEqProofs(maxSteps:=9^7)(disch:=first|exact Yo rfl|omega|(simp only[go_sem]<;>omega)|fail)only[go_sem,lw,sh,es]<;>try with_reducible rfl)|apply Yi|apply Yj|apply Yk|apply Yl|apply Ym|apply Yn)
def anyP (c al : Nat → Bool) (s : Nat) (ps : List Nat) : Bool:=ps.any fun p=>c p && al (andN s p)
def nxF (c al : Nat → Bool) (s : Nat) (ps : List Nat) : Nat → Bool:=fun i=>if i < s then anyP c al i (subL i i) else if i = s then anyP c al s ps else false
theorem nxF_set (c al : Nat → Bool) (s : Nat) (ps ps' : List Nat) : (fun j=>if j = s then anyP c al s ps' else nxF c al s ps j) = nxF c al s ps':=by
 funext j;unfold nxF;by_cases h : j = s
 ·subst h; simp
 ·rw [if_neg h]
  simp [h]
theorem nxF_next (c al : Nat → Bool) (s : Nat) : nxF c al s (subL s s) = nxF c al (s + 1) []:=by
 funext j;unfold nxF;by_cases h1 : j < s
 ·rw [if_pos h1,if_pos (by omega)]
 ·rw [if_neg h1]
  by_cases h2 : j = s
  ·subst h2; rw [if_pos rfl,if_pos (by omega)]
  ·rw [if_neg h2,if_neg (by omega)]
   by_cases h3 : j = s + 1
   ·rw [if_pos h3]; rfl
   ·rw [if_neg h3]
theorem nxF_zero (c al : Nat → Bool) : nxF c al 0 [] = fun _=>false:=by
 funext j;unfold nxF;rw [if_neg (by omega)]
 split <;> rfl
theorem any_snoc (c al : Nat → Bool) (s : Nat) (ps : List Nat) (p : Nat) : anyP c al s (ps ++ [p]) = (anyP c al s ps || (c p && al (andN s p))):=by
 unfold anyP; simp
theorem nxF_tog {m : MillA} {f : FixA} {ls : List Nat} {loom N : Nat} {c al : Nat → Bool} (hN : N≤64) (hc : ∀ s,s < N → (c s = true ↔ canP m f loom s)) (hal : ∀ s,s < N → (al s = true ↔ Tog m f ls s)) : ∀ s,s < N → (nxF c al N [] s = true ↔ Tog m f (loom :: ls) s):=fun s hs => by
 have e : nxF c al N [] s = anyP c al s (subL s s):=by unfold nxF; rw [if_pos hs]
 rw [e];unfold anyP Tog;rw [List.any_eq_true];constructor
 ·rintro ⟨p,hp,h⟩
  have hps:=sub_lt s p hp;have h1:=(sub_mem s (by omega) p (by omega)).1 hp
  have hle:=andN_le (a:=s) (b:=p) (show s < 9223372036854775808 by omega)
  rw [Bool.and_eq_true,hc p (by omega),hal _ (by omega)] at h
  exact ⟨p,h1,h.1,h.2⟩
 ·rintro ⟨p,h1,h2,h3⟩
  have hps : p≤s:=by rw [← h1]; exact Nat.and_le_right
  have hle:=andN_le (a:=s) (b:=p) (show s < 9223372036854775808 by omega)
  exact ⟨p,(sub_mem s (by omega) p (by omega)).2 h1,by rw [Bool.and_eq_true,hc p (by omega),hal _ (by omega)]; exact ⟨h2,h3⟩⟩
theorem together_ok (m : MillA) (hm : m.Ok) {fv : AV} {f : FixA} (hf : FixV fv f) (hr : ∀ o r,f o = some r → 0≤r.2∧r.2≤1000) :
  ∃ q,lim F 37 [millV m,.list 1 (natsV (List.range m.ws.length)),fv] = some q∧∃ c,q = (.own 1 (boolsV c (2 ^ m.os.length)),[])∧∀ s,s < 2 ^ m.os.length → (c s = true ↔ Tog m f (loomsR m.ws.length) s):=by
 have hC:=fun loom hl => can_ok m hm hf hr loom hl
 have n6:=hm.n6;have l3:=hm.l1;have hp6 : 2 ^ m.os.length≤2 ^ 6:=Nat.pow_le_pow_right (by omega) n6
 have hp0 : 0 < 2 ^ m.os.length:=Nat.pow_pos (by omega)
 have sh:=w_shl1 m.os.length (by omega)
 have l1:=ord_len m;unfold millV at *;generalize ordsV m = es at *;generalize widV m = ws at *;generalize hN : 2 ^ m.os.length = NN at *;generalize hL : m.ws.length = L at *;have z1:=bools_zero NN;have z2:=bools_set (c:=fun _=>false) (N:=NN) true hp0
 have z3 : (boolsV (fun _=>false) NN)[0]? = some (.bool false):=bools_get hp0
 have z4:=bools_len (fun _=>false) NN
 have lr : (natsV (List.range L)).length = L:=by simp
 have lg : ∀ i,i < L → (natsV (List.range L))[i]? = some (iv (i : Int)):=fun i hi => by
  rw [nats_at (by simpa using hi),List.getD_eq_getElem?_getD,List.getElem?_range hi]; rfl
 generalize natsV (List.range L) = LV at *;have hfz : fv = .const (.map none) ∨ ∃ ks vs,fv = .mapI .i64 ks vs:=by cases hf <;> simp
 rcases hfz with rfl | ⟨ks,vs,rfl⟩
 ·refine lim_ex (fn:=a37) (k:=3) (res:=[.tmp 6]) rfl rfl rfl (by simp -implicitDefEqProofs(maxSteps:=9^7)(disch:=first|exact Yo rfl|omega|(simp only[go_sem]<;>omega)|fail)only[go_sem]) ?_
  try delta mvA
  try delta opA
  try delta tA
  simp -implicitDefEqProofs(maxSteps:=9^7)(disch:=first|exact Yo rfl|omega|(simp only[go_sem]<;>omega)|fail)only[go_sem]
  repeat(first|apply Ya|apply Yb|apply Yc|((first|apply Yd|apply Ye|apply Yf|apply Yg|apply Yh);simp -implicitDefEqProofs(maxSteps:=9^7)(disch:=first|exact Yo rfl|omega|(simp only[go_sem]<;>omega)|fail)only[go_sem,l1,sh,z1,z2,z3,z4,hp0,lr,Int.ofNat_lt,Int.toNat_natCast]<;>try with_reducible rfl)|apply Yi|apply Yj|apply Yk|apply Yl|apply Ym|apply Yn)
  apply Yu L (fun li fr => ∃ al,fr = ⟨[(2,.const (.map none)),(3,.ptr 192 0 0),(7,.ptr 448 0 0),(21,.list 1 LV),(22,iv (L : Int)),(23,iv (li : Int))],[(192,.box [.list 1 ws,iv m.ch,.list 5 es]),(448,.box [.slice 307168 0 NN]),(307168,.arr 1 (boolsV al NN))],[],10000000⟩∧∀ s,s < NN → (al s = true ↔ Tog m f (loomsR li) s))
  ·simp -implicitDefEqProofs(maxSteps:=9^7)(disch:=first|exact Yo rfl|omega|(simp only[go_sem]<;>omega)|fail)only[go_sem,norm_eq,Ok.some]
   refine ⟨_,rfl,fun s hs => ?_⟩
   unfold loomsR Tog;by_cases h : s = 0 <;> simp [h]
  clear sh z2 z3 z4;rintro li fr hli ⟨al,rfl,hal⟩;by_cases h' : li < L
  ·obtain ⟨q,hcq,c,rfl,hc⟩:=hC li h'
   have g1:=lg li h';have k1:=bools_len al NN;have k2:=bools_plain c NN;have k3:=bools_len c NN;have z5:=nxF_zero c al;repeat(first|apply Ya|apply Yb|apply Yc|((first|apply Yd|apply Ye|apply Yf|apply Yg|apply Yh);simp -implicitDefEqProofs(maxSteps:=9^7)(disch:=first|exact Yo rfl|omega|(simp only[go_sem]<;>omega)|fail)only[go_sem,h',Int.ofNat_lt,g1,lr,k1,k2,z1,hcq,Int.toNat_natCast]<;>try with_reducible rfl)|apply Yi|apply Yj|apply Yk|apply Yl|apply Ym|apply Yn)
   rw [← z5];have k4:=bools_len (nxF c al 0 []) NN;repeat(first|apply Ya|apply Yb|apply Yc|((first|apply Yd|apply Ye|apply Yf|apply Yg|apply Yh);simp -implicitDefEqProofs(maxSteps:=9^7)(disch:=first|exact Yo rfl|omega|(simp only[go_sem]<;>omega)|fail)only[go_sem,k4]<;>try with_reducible rfl)|apply Yi|apply Yj|apply Yk|apply Yl|apply Ym|apply Yn)
   apply Yt NN (fun s=>⟨[(2,.const (.map none)),(3,.ptr 192 0 0),(7,.ptr 448 0 0),(10,.ptr 640 0 0),(11,.ptr 704 0 0),(21,.list 1 LV),(22,iv (L : Int)),(23,iv (li : Int)),(35,iv (NN : Int)),(36,iv (s : Int))],[(192,.box [.list 1 ws,iv m.ch,.list 5 es]),(448,.box [.slice 307168 0 NN]),(640,.box [.slice 310240 0 NN]),(704,.box [.slice 311264 0 NN]),(307168,.arr 1 (boolsV al NN)),(310240,.arr 1 (boolsV c NN)),(311264,.arr 1 (boolsV (nxF c al s []) NN))],[],10000000⟩) (fun _=>True)
   ·simp -implicitDefEqProofs(maxSteps:=9^7)(disch:=first|exact Yo rfl|omega|(simp only[go_sem]<;>omega)|fail)only[go_sem,norm_eq,Ok.some]
    rw [k3];rfl
   ·trivial
   intro s hs _;by_cases h2 : s < NN
   ·have hB:=subsets_fun s
    have hg:=sub_guess s (by omega)
    have hk:=sub_check s (by omega)
    have hmem:=sub_mem s (by omega)
    have hsl:=sub_lt (s:=s) s;have hnx:=nxF_next c al s;generalize hV : (subL s s).map subE = V at *;have hVl : V.length = (subL s s).length:=by rw [← hV]; simp
    have hVx : ∀ j x,V[j]? = some x → j < (subL s s).length∧x = [iv (((subL s s).getD j 0 : Nat) : Int)]:=fun j x hx => by
     rw [← hV,List.getElem?_map] at hx;rcases Nat.lt_or_ge j (subL s s).length with h | h
     ·rw [List.getElem?_eq_getElem h] at hx
      simp only [Option.map_some,Option.some.injEq] at hx;rw [List.getD_eq_getElem?_getD,List.getElem?_eq_getElem h];exact ⟨h,hx.symm⟩
     ·rw [List.getElem?_eq_none h] at hx; cases hx
    have hPt : ∀ j,j < (subL s s).length → (subL s s).take (j + 1) = (subL s s).take j ++ [(subL s s).getD j 0]:=fun j hj => by
     rw [List.take_succ_eq_append_getElem hj,List.getD_eq_getElem?_getD,List.getElem?_eq_getElem hj]; rfl
    have hPm : ∀ j,j < (subL s s).length → (subL s s).getD j 0 ∈ subL s s:=fun j hj => by
     rw [List.getD_eq_getElem?_getD,List.getElem?_eq_getElem hj]; exact List.getElem_mem hj
    rw [← hnx];clear hnx;generalize hP : subL s s = P at *;repeat(first|apply Ya|apply Yb|apply Yc|((first|apply Yd|apply Ye|apply Yf|apply Yg|apply Yh);simp -implicitDefEqProofs(maxSteps:=9^7)(disch:=first|exact Yo rfl|omega|(simp only[go_sem]<;>omega)|fail)only[go_sem,h2,Int.ofNat_lt,hB]<;>try with_reducible rfl)|apply Yi|apply Yj|apply Yk|apply Yl|apply Ym|apply Yn)
    refine Wp.rangeF (fun j fr => fr = ⟨[(2,.const (.map none)),(3,.ptr 192 0 0),(7,.ptr 448 0 0),(10,.ptr 640 0 0),(11,.ptr 704 0 0),(12,.ptr 768 0 0),(21,.list 1 LV),(22,iv (L : Int)),(23,iv (li : Int)),(35,iv (NN : Int)),(36,iv (s : Int))],[(192,.box [.list 1 ws,iv m.ch,.list 5 es]),(448,.box [.slice 307168 0 NN]),(640,.box [.slice 310240 0 NN]),(704,.box [.slice 311264 0 NN]),(768,.box [iv (s : Int)]),(307168,.arr 1 (boolsV al NN)),(310240,.arr 1 (boolsV c NN)),(311264,.arr 1 (boolsV (nxF c al s (P.take j)) NN))],[],10000000⟩) rfl rfl hg hk ?_ ?_ ?_
    ·simp -implicitDefEqProofs(maxSteps:=9^7)(disch:=first|exact Yo rfl|omega|(simp only[go_sem]<;>omega)|fail)only[go_sem,norm_eq,Ok.some]
    ·rintro j x fr hx rfl
     obtain ⟨hj,rfl⟩:=hVx j x hx;refine ⟨_,rfl,?_⟩;rw [hPt j hj];have hpm:=hPm j hj;have hps:=hsl _ hpm;generalize P.getD j 0 = p at *;have hand:=andN_le (a:=s) (b:=p) (show s < 9223372036854775808 by omega)
     have wn:=w_andN s p (by omega)
     have b1 : (boolsV (nxF c al s (P.take j)) NN)[s]? = some (.bool (nxF c al s (P.take j) s)):=bools_get h2;have b2 : (boolsV c NN)[p]? = some (.bool (c p)):=bools_get (by omega)
     have b3 : (boolsV al NN)[andN s p]? = some (.bool (al (andN s p))):=bools_get (by omega)
     have b4:=bools_set (c:=nxF c al s (P.take j)) (anyP c al s (P.take j ++ [p])) h2;rw [nxF_set] at b4;have b5 : nxF c al s (P.take j) s = anyP c al s (P.take j):=by unfold nxF; rw [if_neg (by omega),if_pos rfl]
     rw [b5] at b1;rw [any_snoc] at b4;have m1:=bools_len (nxF c al s (P.take j)) NN;rw [← b4];clear b4 b5 hPt hPm hVx hsl hmem hg hk hB;generalize boolsV (nxF c al s (P.take j)) NN = B1 at *;generalize boolsV c NN = B2 at *;generalize boolsV al NN = B3 at *;have hpN : p < NN:=by omega
     have haN : andN s p < NN:=by omega
     generalize andN s p = ap at *;generalize anyP c al s (P.take j) = o1 at *;generalize c p = o2 at *;generalize al ap = o3 at *;cases o1 with
     | true =>
      simp only [Bool.true_or];repeat(first|apply Ya|apply Yb|apply Yc|((first|apply Yd|apply Ye|apply Yf|apply Yg|apply Yh);simp -implicitDefEqProofs(maxSteps:=9^7)(disch:=first|exact Yo rfl|omega|(simp only[go_sem]<;>omega)|fail)only[go_sem,h2,Int.ofNat_lt,m1,b1,Int.toNat_natCast]<;>try with_reducible rfl)|apply Yi|apply Yj|apply Yk|apply Yl|apply Ym|apply Yn)
      apply block_norm;apply Ys
      ·simp -implicitDefEqProofs(maxSteps:=9^7)(disch:=first|exact Yo rfl|omega|(simp only[go_sem]<;>omega)|fail)only[go_sem,norm_eq,Ok.some]; with_reducible rfl
      rfl
     | false =>
      cases o2 with
      | false =>
       simp only [Bool.false_and,Bool.or_false];repeat(first|apply Ya|apply Yb|apply Yc|((first|apply Yd|apply Ye|apply Yf|apply Yg|apply Yh);simp -implicitDefEqProofs(maxSteps:=9^7)(disch:=first|exact Yo rfl|omega|(simp only[go_sem]<;>omega)|fail)only[go_sem,h2,hpN,Int.ofNat_lt,m1,k3,b1,b2,Int.toNat_natCast]<;>try with_reducible rfl)|apply Yi|apply Yj|apply Yk|apply Yl|apply Ym|apply Yn)
       apply block_norm;apply Ys
       ·simp -implicitDefEqProofs(maxSteps:=9^7)(disch:=first|exact Yo rfl|omega|(simp only[go_sem]<;>omega)|fail)only[go_sem,norm_eq,Ok.some]; with_reducible rfl
       rfl
      | true =>
       simp only [Bool.true_and,Bool.false_or];repeat(first|apply Ya|apply Yb|apply Yc|((first|apply Yd|apply Ye|apply Yf|apply Yg|apply Yh);simp -implicitDefEqProofs(maxSteps:=9^7)(disch:=first|exact Yo rfl|omega|(simp only[go_sem]<;>omega)|fail)only[go_sem,h2,hpN,haN,Int.ofNat_lt,m1,k1,k3,b1,b2,b3,wn,Int.toNat_natCast]<;>try with_reducible rfl)|apply Yi|apply Yj|apply Yk|apply Yl|apply Ym|apply Yn)
       apply block_norm;apply Ys
       ·simp -implicitDefEqProofs(maxSteps:=9^7)(disch:=first|exact Yo rfl|omega|(simp only[go_sem]<;>omega)|fail)only[go_sem,norm_eq,Ok.some]; with_reducible rfl
       rfl
    ·rintro fr rfl
     rw [hVl,List.take_of_length_le (Nat.le_refl _)];apply block_norm;repeat(first|apply Ya|apply Yb|apply Yc|((first|apply Yd|apply Ye|apply Yf|apply Yg|apply Yh);simp -implicitDefEqProofs(maxSteps:=9^7)(disch:=first|exact Yo rfl|omega|(simp only[go_sem]<;>omega)|fail)only[go_sem]<;>try with_reducible rfl)|apply Yi|apply Yj|apply Yk|apply Yl|apply Ym|apply Yn)
     apply Ys
     ·simp -implicitDefEqProofs(maxSteps:=9^7)(disch:=first|exact Yo rfl|omega|(simp only[go_sem]<;>omega)|fail)only[go_sem,norm_eq,Ok.some]; with_reducible rfl
     exact ⟨h2,by simp,trivial⟩
   ·obtain rfl : s = NN:=by omega
    have hfin:=nxF_tog (show s≤64 by omega) hc hal
    repeat(first|apply Ya|apply Yb|apply Yc|((first|apply Yd|apply Ye|apply Yf|apply Yg|apply Yh);simp -implicitDefEqProofs(maxSteps:=9^7)(disch:=first|exact Yo rfl|omega|(simp only[go_sem]<;>omega)|fail)only[go_sem,h2,Int.ofNat_lt]<;>try with_reducible rfl)|apply Yi|apply Yj|apply Yk|apply Yl|apply Ym|apply Yn)
    apply Ys
    ·simp -implicitDefEqProofs(maxSteps:=9^7)(disch:=first|exact Yo rfl|omega|(simp only[go_sem]<;>omega)|fail)only[go_sem,norm_eq,Ok.some]; with_reducible rfl
    exact ⟨h',_,by simp,hfin⟩
  ·obtain rfl : li = L:=by omega
   have k1:=bools_len al NN;have k2 : (boolsV al NN).take NN = boolsV al NN:=List.take_of_length_le (by omega)
   have k3:=bools_plain al NN;repeat(first|apply Ya|apply Yb|apply Yc|((first|apply Yd|apply Ye|apply Yf|apply Yg|apply Yh);simp -implicitDefEqProofs(maxSteps:=9^7)(disch:=first|exact Yo rfl|omega|(simp only[go_sem]<;>omega)|fail)only[go_sem,h',Int.ofNat_lt]<;>try with_reducible rfl)|apply Yi|apply Yj|apply Yk|apply Yl|apply Ym|apply Yn)
   refine finp_ret (r:=(.own 1 (boolsV al NN),[])) ?_ ⟨al,rfl,hal⟩;generalize boolsV al NN = BV at *;simp -implicitDefEqProofs(maxSteps:=9^7)(disch:=first|exact Yo rfl|omega|(simp only[go_sem]<;>omega)|fail)only[go_sem,k1,k2,k3]
 ·refine lim_ex (fn:=a37) (k:=3) (res:=[.tmp 6]) rfl rfl rfl (by simp -implicitDefEqProofs(maxSteps:=9^7)(disch:=first|exact Yo rfl|omega|(simp only[go_sem]<;>omega)|fail)only[go_sem]) ?_
  try delta mvA
  try delta opA
  try delta tA
  simp -implicitDefEqProofs(maxSteps:=9^7)(disch:=first|exact Yo rfl|omega|(simp only[go_sem]<;>omega)|fail)only[go_sem]
  repeat(first|apply Ya|apply Yb|apply Yc|((first|apply Yd|apply Ye|apply Yf|apply Yg|apply Yh);simp -implicitDefEqProofs(maxSteps:=9^7)(disch:=first|exact Yo rfl|omega|(simp only[go_sem]<;>omega)|fail)only[go_sem,l1,sh,z1,z2,z3,z4,hp0,lr,Int.ofNat_lt,Int.toNat_natCast]<;>try with_reducible rfl)|apply Yi|apply Yj|apply Yk|apply Yl|apply Ym|apply Yn)
  apply Yu L (fun li fr => ∃ al,fr = ⟨[(2,.mapI .i64 ks vs),(3,.ptr 192 0 0),(7,.ptr 448 0 0),(21,.list 1 LV),(22,iv (L : Int)),(23,iv (li : Int))],[(192,.box [.list 1 ws,iv m.ch,.list 5 es]),(448,.box [.slice 307168 0 NN]),(307168,.arr 1 (boolsV al NN))],[],10000000⟩∧∀ s,s < NN → (al s = true ↔ Tog m f (loomsR li) s))
  ·simp -implicitDefEqProofs(maxSteps:=9^7)(disch:=first|exact Yo rfl|omega|(simp only[go_sem]<;>omega)|fail)only[go_sem,norm_eq,Ok.some]
   refine ⟨_,rfl,fun s hs => ?_⟩
   unfold loomsR Tog;by_cases h : s = 0 <;> simp [h]
  clear sh z2 z3 z4;rintro li fr hli ⟨al,rfl,hal⟩;by_cases h' : li < L
  ·obtain ⟨q,hcq,c,rfl,hc⟩:=hC li h'
   have g1:=lg li h';have k1:=bools_len al NN;have k2:=bools_plain c NN;have k3:=bools_len c NN;have z5:=nxF_zero c al;repeat(first|apply Ya|apply Yb|apply Yc|((first|apply Yd|apply Ye|apply Yf|apply Yg|apply Yh);simp -implicitDefEqProofs(maxSteps:=9^7)(disch:=first|exact Yo rfl|omega|(simp only[go_sem]<;>omega)|fail)only[go_sem,h',Int.ofNat_lt,g1,lr,k1,k2,z1,hcq,Int.toNat_natCast]<;>try with_reducible rfl)|apply Yi|apply Yj|apply Yk|apply Yl|apply Ym|apply Yn)
   rw [← z5];have k4:=bools_len (nxF c al 0 []) NN;repeat(first|apply Ya|apply Yb|apply Yc|((first|apply Yd|apply Ye|apply Yf|apply Yg|apply Yh);simp -implicitDefEqProofs(maxSteps:=9^7)(disch:=first|exact Yo rfl|omega|(simp only[go_sem]<;>omega)|fail)only[go_sem,k4]<;>try with_reducible rfl)|apply Yi|apply Yj|apply Yk|apply Yl|apply Ym|apply Yn)
   apply Yt NN (fun s=>⟨[(2,.mapI .i64 ks vs),(3,.ptr 192 0 0),(7,.ptr 448 0 0),(10,.ptr 640 0 0),(11,.ptr 704 0 0),(21,.list 1 LV),(22,iv (L : Int)),(23,iv (li : Int)),(35,iv (NN : Int)),(36,iv (s : Int))],[(192,.box [.list 1 ws,iv m.ch,.list 5 es]),(448,.box [.slice 307168 0 NN]),(640,.box [.slice 310240 0 NN]),(704,.box [.slice 311264 0 NN]),(307168,.arr 1 (boolsV al NN)),(310240,.arr 1 (boolsV c NN)),(311264,.arr 1 (boolsV (nxF c al s []) NN))],[],10000000⟩) (fun _=>True)
   ·simp -implicitDefEqProofs(maxSteps:=9^7)(disch:=first|exact Yo rfl|omega|(simp only[go_sem]<;>omega)|fail)only[go_sem,norm_eq,Ok.some]
    rw [k3];rfl
   ·trivial
   intro s hs _;by_cases h2 : s < NN
   ·have hB:=subsets_fun s
    have hg:=sub_guess s (by omega)
    have hk:=sub_check s (by omega)
    have hmem:=sub_mem s (by omega)
    have hsl:=sub_lt (s:=s) s;have hnx:=nxF_next c al s;generalize hV : (subL s s).map subE = V at *;have hVl : V.length = (subL s s).length:=by rw [← hV]; simp
    have hVx : ∀ j x,V[j]? = some x → j < (subL s s).length∧x = [iv (((subL s s).getD j 0 : Nat) : Int)]:=fun j x hx => by
     rw [← hV,List.getElem?_map] at hx;rcases Nat.lt_or_ge j (subL s s).length with h | h
     ·rw [List.getElem?_eq_getElem h] at hx
      simp only [Option.map_some,Option.some.injEq] at hx;rw [List.getD_eq_getElem?_getD,List.getElem?_eq_getElem h];exact ⟨h,hx.symm⟩
     ·rw [List.getElem?_eq_none h] at hx; cases hx
    have hPt : ∀ j,j < (subL s s).length → (subL s s).take (j + 1) = (subL s s).take j ++ [(subL s s).getD j 0]:=fun j hj => by
     rw [List.take_succ_eq_append_getElem hj,List.getD_eq_getElem?_getD,List.getElem?_eq_getElem hj]; rfl
    have hPm : ∀ j,j < (subL s s).length → (subL s s).getD j 0 ∈ subL s s:=fun j hj => by
     rw [List.getD_eq_getElem?_getD,List.getElem?_eq_getElem hj]; exact List.getElem_mem hj
    rw [← hnx];clear hnx;generalize hP : subL s s = P at *;repeat(first|apply Ya|apply Yb|apply Yc|((first|apply Yd|apply Ye|apply Yf|apply Yg|apply Yh);simp -implicitDefEqProofs(maxSteps:=9^7)(disch:=first|exact Yo rfl|omega|(simp only[go_sem]<;>omega)|fail)only[go_sem,h2,Int.ofNat_lt,hB]<;>try with_reducible rfl)|apply Yi|apply Yj|apply Yk|apply Yl|apply Ym|apply Yn)
    refine Wp.rangeF (fun j fr => fr = ⟨[(2,.mapI .i64 ks vs),(3,.ptr 192 0 0),(7,.ptr 448 0 0),(10,.ptr 640 0 0),(11,.ptr 704 0 0),(12,.ptr 768 0 0),(21,.list 1 LV),(22,iv (L : Int)),(23,iv (li : Int)),(35,iv (NN : Int)),(36,iv (s : Int))],[(192,.box [.list 1 ws,iv m.ch,.list 5 es]),(448,.box [.slice 307168 0 NN]),(640,.box [.slice 310240 0 NN]),(704,.box [.slice 311264 0 NN]),(768,.box [iv (s : Int)]),(307168,.arr 1 (boolsV al NN)),(310240,.arr 1 (boolsV c NN)),(311264,.arr 1 (boolsV (nxF c al s (P.take j)) NN))],[],10000000⟩) rfl rfl hg hk ?_ ?_ ?_
    ·simp -implicitDefEqProofs(maxSteps:=9^7)(disch:=first|exact Yo rfl|omega|(simp only[go_sem]<;>omega)|fail)only[go_sem,norm_eq,Ok.some]
    ·rintro j x fr hx rfl
     obtain ⟨hj,rfl⟩:=hVx j x hx;refine ⟨_,rfl,?_⟩;rw [hPt j hj];have hpm:=hPm j hj;have hps:=hsl _ hpm;generalize P.getD j 0 = p at *;have hand:=andN_le (a:=s) (b:=p) (show s < 9223372036854775808 by omega)
     have wn:=w_andN s p (by omega)
     have b1 : (boolsV (nxF c al s (P.take j)) NN)[s]? = some (.bool (nxF c al s (P.take j) s)):=bools_get h2;have b2 : (boolsV c NN)[p]? = some (.bool (c p)):=bools_get (by omega)
     have b3 : (boolsV al NN)[andN s p]? = some (.bool (al (andN s p))):=bools_get (by omega)
     have b4:=bools_set (c:=nxF c al s (P.take j)) (anyP c al s (P.take j ++ [p])) h2;rw [nxF_set] at b4;have b5 : nxF c al s (P.take j) s = anyP c al s (P.take j):=by unfold nxF; rw [if_neg (by omega),if_pos rfl]
     rw [b5] at b1;rw [any_snoc] at b4;have m1:=bools_len (nxF c al s (P.take j)) NN;rw [← b4];clear b4 b5 hPt hPm hVx hsl hmem hg hk hB;generalize boolsV (nxF c al s (P.take j)) NN = B1 at *;generalize boolsV c NN = B2 at *;generalize boolsV al NN = B3 at *;have hpN : p < NN:=by omega
     have haN : andN s p < NN:=by omega
     generalize andN s p = ap at *;generalize anyP c al s (P.take j) = o1 at *;generalize c p = o2 at *;generalize al ap = o3 at *;cases o1 with
     | true =>
      simp only [Bool.true_or];repeat(first|apply Ya|apply Yb|apply Yc|((first|apply Yd|apply Ye|apply Yf|apply Yg|apply Yh);simp -implicitDefEqProofs(maxSteps:=9^7)(disch:=first|exact Yo rfl|omega|(simp only[go_sem]<;>omega)|fail)only[go_sem,h2,Int.ofNat_lt,m1,b1,Int.toNat_natCast]<;>try with_reducible rfl)|apply Yi|apply Yj|apply Yk|apply Yl|apply Ym|apply Yn)
      apply block_norm;apply Ys
      ·simp -implicitDefEqProofs(maxSteps:=9^7)(disch:=first|exact Yo rfl|omega|(simp only[go_sem]<;>omega)|fail)only[go_sem,norm_eq,Ok.some]; with_reducible rfl
      rfl
     | false =>
      cases o2 with
      | false =>
       simp only [Bool.false_and,Bool.or_false];repeat(first|apply Ya|apply Yb|apply Yc|((first|apply Yd|apply Ye|apply Yf|apply Yg|apply Yh);simp -implicitDefEqProofs(maxSteps:=9^7)(disch:=first|exact Yo rfl|omega|(simp only[go_sem]<;>omega)|fail)only[go_sem,h2,hpN,Int.ofNat_lt,m1,k3,b1,b2,Int.toNat_natCast]<;>try with_reducible rfl)|apply Yi|apply Yj|apply Yk|apply Yl|apply Ym|apply Yn)
       apply block_norm;apply Ys
       ·simp -implicitDefEqProofs(maxSteps:=9^7)(disch:=first|exact Yo rfl|omega|(simp only[go_sem]<;>omega)|fail)only[go_sem,norm_eq,Ok.some]; with_reducible rfl
       rfl
      | true =>
       simp only [Bool.true_and,Bool.false_or];repeat(first|apply Ya|apply Yb|apply Yc|((first|apply Yd|apply Ye|apply Yf|apply Yg|apply Yh);simp -implicitDefEqProofs(maxSteps:=9^7)(disch:=first|exact Yo rfl|omega|(simp only[go_sem]<;>omega)|fail)only[go_sem,h2,hpN,haN,Int.ofNat_lt,m1,k1,k3,b1,b2,b3,wn,Int.toNat_natCast]<;>try with_reducible rfl)|apply Yi|apply Yj|apply Yk|apply Yl|apply Ym|apply Yn)
       apply block_norm;apply Ys
       ·simp -implicitDefEqProofs(maxSteps:=9^7)(disch:=first|exact Yo rfl|omega|(simp only[go_sem]<;>omega)|fail)only[go_sem,norm_eq,Ok.some]; with_reducible rfl
       rfl
    ·rintro fr rfl
     rw [hVl,List.take_of_length_le (Nat.le_refl _)];apply block_norm;repeat(first|apply Ya|apply Yb|apply Yc|((first|apply Yd|apply Ye|apply Yf|apply Yg|apply Yh);simp -implicitDefEqProofs(maxSteps:=9^7)(disch:=first|exact Yo rfl|omega|(simp only[go_sem]<;>omega)|fail)only[go_sem]<;>try with_reducible rfl)|apply Yi|apply Yj|apply Yk|apply Yl|apply Ym|apply Yn)
     apply Ys
     ·simp -implicitDefEqProofs(maxSteps:=9^7)(disch:=first|exact Yo rfl|omega|(simp only[go_sem]<;>omega)|fail)only[go_sem,norm_eq,Ok.some]; with_reducible rfl
     exact ⟨h2,by simp,trivial⟩
   ·obtain rfl : s = NN:=by omega
    have hfin:=nxF_tog (show s≤64 by omega) hc hal
    repeat(first|apply Ya|apply Yb|apply Yc|((first|apply Yd|apply Ye|apply Yf|apply Yg|apply Yh);simp -implicitDefEqProofs(maxSteps:=9^7)(disch:=first|exact Yo rfl|omega|(simp only[go_sem]<;>omega)|fail)only[go_sem,h2,Int.ofNat_lt]<;>try with_reducible rfl)|apply Yi|apply Yj|apply Yk|apply Yl|apply Ym|apply Yn)
    apply Ys
    ·simp -implicitDefEqProofs(maxSteps:=9^7)(disch:=first|exact Yo rfl|omega|(simp only[go_sem]<;>omega)|fail)only[go_sem,norm_eq,Ok.some]; with_reducible rfl
    exact ⟨h',_,by simp,hfin⟩
  ·obtain rfl : li = L:=by omega
   have k1:=bools_len al NN;have k2 : (boolsV al NN).take NN = boolsV al NN:=List.take_of_length_le (by omega)
   have k3:=bools_plain al NN;repeat(first|apply Ya|apply Yb|apply Yc|((first|apply Yd|apply Ye|apply Yf|apply Yg|apply Yh);simp -implicitDefEqProofs(maxSteps:=9^7)(disch:=first|exact Yo rfl|omega|(simp only[go_sem]<;>omega)|fail)only[go_sem,h',Int.ofNat_lt]<;>try with_reducible rfl)|apply Yi|apply Yj|apply Yk|apply Yl|apply Ym|apply Yn)
   refine finp_ret (r:=(.own 1 (boolsV al NN),[])) ?_ ⟨al,rfl,hal⟩;generalize boolsV al NN = BV at *;simp -implicitDefEqProofs(maxSteps:=9^7)(disch:=first|exact Yo rfl|omega|(simp only[go_sem]<;>omega)|fail)only[go_sem,k1,k2,k3]
end Go.Abs
set_option linter.all false
namespace Go.Abs
set_option maxRecDepth 10000
set_option maxHeartbeats 8000000
open Go.Abs.Lo (OrdA MillA FixA beg chg never canP Path Tog loomsR upd)
theorem kvGet_setL (x k : Int) (v : AV) : ∀ kv,kvGet x (kvSet k v kv) = if k = x then some v else kvGet x kv
 | [] => by simp [kvSet,kvGet]
 | (j,u) :: r => by
  unfold kvSet;by_cases h : j = k
  ·subst h
   by_cases h2 : j = x
   ·simp [kvGet,h2]
   ·simp [kvGet,h2]
  ·rw [if_neg h]
   simp only [kvGet];rw [kvGet_setL x k v r];by_cases h2 : j = x
   ·have : ¬ k = x:=fun e=>h (h2.trans e.symm)
    simp [h2,this]
   ·simp [h2]
theorem zip_kvL : ∀ kv : List (Int × AV),(kv.map (·.1)).zip (kv.map (·.2)) = kv
 | [] => rfl
 | x :: r => by
  rw [List.map_cons,List.map_cons,List.zip_cons_cons,zip_kvL r]
def FixM (kv : List (Int × AV)) (f : FixA) : Prop:=∀ o : Nat,kvGet (o : Int) kv = (f o).map (lrunV o)
theorem FixM.v {kv : List (Int × AV)} {f : FixA} (h : FixM kv f) : FixV (.mapI .i64 (kv.map (·.1)) (kv.map (·.2))) f :=
 .some _ _ _ fun o=>by rw [zip_kvL]; exact h o
theorem next_ok (m : MillA) (hm : m.Ok) {kv : List (Int × AV)} {f : FixA} (hkv : FixM kv f) (hr : ∀ o r,f o = some r → 0≤r.2∧r.2≤1000) (o : Nat) (ho : o < m.os.length) (hT : Tog m f (loomsR m.ws.length) (2 ^ m.os.length - 1)) :
  ∃ q,lim F 40 [millV m,iv (o : Int),.borM [] (kvK kv) (kvV kv)] = some q∧∃ kv' loom d,q = (.bool true,[.borM [] (kvK kv') (kvV kv')])∧FixM kv' (upd f o (loom,d))∧loom < m.ws.length∧(m.o o).e≤d∧d + (m.o o).v≤(m.o o).t∧Tog m (upd f o (loom,d)) (loomsR m.ws.length) (2 ^ m.os.length - 1):=by
 have n6:=hm.n6;have hp:=Nat.pow_pos (n:=m.os.length) (show 0 < 2 by omega)
 have hp2 : 2 ^ m.os.length≤2 ^ 6:=Nat.pow_le_pow_right (by omega) n6
 obtain ⟨wl,hwl,wd,w1,w2,w3⟩:=hT.fix (k:=o) (by omega) (by rw [Lo.all_bit]; exact decide_eq_true ho)
 have hwl:=Lo.mem_loomsR.1 hwl;have hG : ∀ (kv : List (Int × AV)) (loom : Nat) (d : Int),FixM kv (upd f o (loom,d)) → 0≤d → d≤300 → ∃ q,lim F 37 [millV m,.list 1 (natsV (List.range m.ws.length)),.mapI .i64 (kv.map (·.1)) (kv.map (·.2))] = some q∧∃ c,q = (.own 1 (boolsV c (2 ^ m.os.length)),[])∧∀ s,s < 2 ^ m.os.length → (c s = true ↔ Tog m (upd f o (loom,d)) (loomsR m.ws.length) s):=fun kv loom d h h1 h2 =>
  together_ok m hm h.v fun o' r hr' => by
   unfold upd at hr';split at hr'
   ·cases hr'; dsimp only; omega
   ·exact hr o' r hr'
 have hlo:=looms_ok m hm;have hal:=all_ok m hm;have g1:=ord_get ho;have l1:=ord_len m;have hov:=hm.o ho;have e1:=hov.e1;have v1:=hov.v1;have t1:=hov.t1;have lr : (natsV (List.range m.ws.length)).length = m.ws.length:=by simp
 have lp : (natsV (List.range m.ws.length)).all AV.plain = true:=nat_plain _;have lg : ∀ i,i < m.ws.length → (natsV (List.range m.ws.length))[i]? = some (iv (i : Int)):=fun i hi => by
  rw [nats_at (by simpa using hi),List.getD_eq_getElem?_getD,List.getElem?_range hi]; rfl
 have l3:=hm.l1;unfold millV at *;unfold ordV at g1;generalize natsV (List.range m.ws.length) = LV at *;generalize ordsV m = es at *;generalize widV m = ws at *;generalize hall : 2 ^ m.os.length - 1 = al at *;have haln : al < 2 ^ m.os.length:=by omega
 generalize 2 ^ m.os.length = NN at *;generalize hL : m.ws.length = L at *;generalize m.o o = x at *;refine lim_ex (fn:=a40) (k:=3) (res:=[.tmp 6]) rfl rfl rfl (by simp -implicitDefEqProofs(maxSteps:=9^7)(disch:=first|exact Yo rfl|omega|(simp only[go_sem]<;>omega)|fail)only[go_sem]) ?_
 try delta mvA
 try delta opA
 try delta tA
 simp -implicitDefEqProofs(maxSteps:=9^7)(disch:=first|exact Yo rfl|omega|(simp only[go_sem]<;>omega)|fail)only[go_sem]
 repeat(first|apply Ya|apply Yb|apply Yc|((first|apply Yd|apply Ye|apply Yf|apply Yg|apply Yh);simp -implicitDefEqProofs(maxSteps:=9^7)(disch:=first|exact Yo rfl|omega|(simp only[go_sem]<;>omega)|fail)only[go_sem,g1,l1,ho,Int.ofNat_lt,Int.toNat_natCast]<;>try with_reducible rfl)|apply Yi|apply Yj|apply Yk|apply Yl|apply Ym|apply Yn)
 obtain ⟨N,hN⟩ : ∃ N : Nat,N = (x.t - x.v - x.e + 1).toNat:=⟨_,rfl⟩;apply Yu N (fun i fr => ∃ kv,fr = ⟨[(1,iv (o : Int)),(2,.mapp 200000),(3,.ptr 192 0 0),(7,.ptr 448 0 0),(8,iv (x.e + (i : Int)))],[(192,.box [.list 1 ws,iv m.ch,.list 5 es]),(448,.box [iv x.w,iv x.c,iv x.v,iv x.e,iv x.t]),(200000,.mp .i64 kv)],[(200000,none)],10000000⟩∧(∀ o' : Nat,o' ≠ o → kvGet (o' : Int) kv = (f o').map (lrunV o'))∧∀ i',i' < i → ∀ loom,loom < L → ¬ Tog m (upd f o (loom,x.e + (i' : Nat))) (loomsR L) al)
 ·simp -implicitDefEqProofs(maxSteps:=9^7)(disch:=first|exact Yo rfl|omega|(simp only[go_sem]<;>omega)|fail)only[go_sem,norm_eq,Ok.some]
  exact ⟨kv,by simp,fun o' _ => hkv o',fun i' h => by omega⟩
 rintro i fr hi ⟨kv,rfl,hk,hno⟩;by_cases h' : x.e + (i : Int) + x.v≤x.t
 ·repeat(first|apply Ya|apply Yb|apply Yc|((first|apply Yd|apply Ye|apply Yf|apply Yg|apply Yh);simp -implicitDefEqProofs(maxSteps:=9^7)(disch:=first|exact Yo rfl|omega|(simp only[go_sem]<;>omega)|fail)only[go_sem,h',hlo,lr,lp]<;>try with_reducible rfl)|apply Yi|apply Yj|apply Yk|apply Yl|apply Ym|apply Yn)
  apply Yu L (fun li fr => ∃ kv,fr = ⟨[(1,iv (o : Int)),(2,.mapp 200000),(3,.ptr 192 0 0),(7,.ptr 448 0 0),(8,iv (x.e + (i : Int))),(28,.slice 1792 0 L),(29,iv (L : Int)),(30,iv (li : Int))],[(192,.box [.list 1 ws,iv m.ch,.list 5 es]),(448,.box [iv x.w,iv x.c,iv x.v,iv x.e,iv x.t]),(1792,.arr 1 LV),(200000,.mp .i64 kv)],[(200000,none)],10000000⟩∧(∀ o' : Nat,o' ≠ o → kvGet (o' : Int) kv = (f o').map (lrunV o'))∧∀ loom,loom < li → ¬ Tog m (upd f o (loom,x.e + (i : Int))) (loomsR L) al)
  ·simp -implicitDefEqProofs(maxSteps:=9^7)(disch:=first|exact Yo rfl|omega|(simp only[go_sem]<;>omega)|fail)only[go_sem,norm_eq,Ok.some,lr]
   exact ⟨kv,rfl,hk,fun loom h => by omega⟩
  clear hk;rintro li fr hli ⟨kv,rfl,hk,hni⟩;by_cases h2 : li < L
  ·have g2:=lg li h2
   have hkv2 : FixM (kvSet (o : Int) (.agg [iv (o : Int),iv (li : Int),iv (x.e + (i : Int))]) kv) (upd f o (li,x.e + (i : Int))):=fun o' => by
    rw [kvGet_setL];unfold upd;by_cases e : o' = o
    ·subst e
     rw [if_pos rfl,if_pos rfl];rfl
    ·rw [if_neg (by omega),if_neg e]
     exact hk o' e
   have hk2 : ∀ o' : Nat,o' ≠ o → kvGet (o' : Int) (kvSet (o : Int) (.agg [iv (o : Int),iv (li : Int),iv (x.e + (i : Int))]) kv) = (f o').map (lrunV o'):=fun o' e => by
    rw [kvGet_setL,if_neg (by omega)]
    exact hk o' e
   obtain ⟨q,hq,c,rfl,hc⟩:=hG _ li (x.e + (i : Int)) hkv2 (by omega) (by omega)
   have c1:=hc al haln;have b1:=bools_get (c:=c) haln;have b2:=bools_len c NN;have b3:=bools_plain c NN;have t1 : LV.take L = LV:=List.take_of_length_le (by omega)
   generalize boolsV c NN = BV at *;rcases Bool.eq_false_or_eq_true (c al) with hb | hb
   ·rw [hb] at c1 b1
    have hTg:=c1.1 rfl;repeat(first|apply Ya|apply Yb|apply Yc|((first|apply Yd|apply Ye|apply Yf|apply Yg|apply Yh);simp -implicitDefEqProofs(maxSteps:=9^7)(disch:=first|exact Yo rfl|omega|(simp only[go_sem]<;>omega)|fail)only[go_sem,h2,Int.ofNat_lt,g2,lr,lp,t1,hlo,hq,hal,haln,b1,b2,b3,Int.toNat_natCast]<;>try with_reducible rfl)|apply Yi|apply Yj|apply Yk|apply Yl|apply Ym|apply Yn)
    refine finp_ret (r:=(.bool true,[.borM [] (kvK (kvSet (o : Int) (.agg [iv (o : Int),iv (li : Int),iv (x.e + (i : Int))]) kv)) (kvV (kvSet (o : Int) (.agg [iv (o : Int),iv (li : Int),iv (x.e + (i : Int))]) kv))])) ?_ ⟨_,li,x.e + (i : Int),rfl,hkv2,h2,by omega,by omega,hTg⟩
    simp -implicitDefEqProofs(maxSteps:=9^7)(disch:=first|exact Yo rfl|omega|(simp only[go_sem]<;>omega)|fail)only[go_sem]
   ·rw [hb] at c1 b1
    have hTg : ¬ Tog m (upd f o (li,x.e + (i : Int))) (loomsR L) al:=fun h=>by
     have:=c1.2 h;cases this
    repeat(first|apply Ya|apply Yb|apply Yc|((first|apply Yd|apply Ye|apply Yf|apply Yg|apply Yh);simp -implicitDefEqProofs(maxSteps:=9^7)(disch:=first|exact Yo rfl|omega|(simp only[go_sem]<;>omega)|fail)only[go_sem,h2,Int.ofNat_lt,g2,lr,lp,t1,hlo,hq,hal,haln,b1,b2,b3,Int.toNat_natCast]<;>try with_reducible rfl)|apply Yi|apply Yj|apply Yk|apply Yl|apply Ym|apply Yn)
    apply Ys
    ·simp -implicitDefEqProofs(maxSteps:=9^7)(disch:=first|exact Yo rfl|omega|(simp only[go_sem]<;>omega)|fail)only[go_sem,norm_eq,Ok.some]; with_reducible rfl
    refine ⟨h2,_,by simp,hk2,fun loom h => ?_⟩
    by_cases e : loom = li
    ·subst e; exact hTg
    ·exact hni loom (by omega)
  ·obtain rfl : li = L:=by omega
   repeat(first|apply Ya|apply Yb|apply Yc|((first|apply Yd|apply Ye|apply Yf|apply Yg|apply Yh);simp -implicitDefEqProofs(maxSteps:=9^7)(disch:=first|exact Yo rfl|omega|(simp only[go_sem]<;>omega)|fail)only[go_sem,h2,Int.ofNat_lt,lr]<;>try with_reducible rfl)|apply Yi|apply Yj|apply Yk|apply Yl|apply Ym|apply Yn)
   apply Ys
   ·simp -implicitDefEqProofs(maxSteps:=9^7)(disch:=first|exact Yo rfl|omega|(simp only[go_sem]<;>omega)|fail)only[go_sem,norm_eq,Ok.some]; with_reducible rfl
   refine ⟨by omega,kv,?_,hk,fun i' h => ?_⟩
   ·simp
    omega
   ·by_cases e : i' = i
    ·subst e; exact hni
    ·exact hno i' (by omega)
 ·exfalso
  refine hno (wd - x.e).toNat (by omega) wl hwl ?_
  rw [show x.e + ((wd - x.e).toNat : Int) = wd by omega]
  exact w3
end Go.Abs
set_option linter.all false
namespace Go.Abs
set_option maxRecDepth 10000
set_option maxHeartbeats 8000000
open Go.Abs.Lo (OrdA MillA FixA beg chg never canP Path Tog loomsR upd)
def rAt (rs : List (Nat × Int)) (o : Nat) : Nat × Int:=rs.getD o (0,0)
def planV (rs : List (Nat × Int)) (k : Nat) : List AV:=(List.range k).map fun o=>lrunV o (rAt rs o)
theorem plan_len (rs : List (Nat × Int)) (k : Nat) : (planV rs k).length = k:=by simp [planV]
theorem plan_get {rs : List (Nat × Int)} {k i : Nat} (h : i < k) : (planV rs k)[i]? = some (lrunV i (rAt rs i)):=by
 unfold planV;rw [List.getElem?_map,List.getElem?_range h]; rfl
theorem plan_plain (rs : List (Nat × Int)) (k : Nat) : (planV rs k).all AV.plain = true:=by
 rw [List.all_eq_true];intro x hx;unfold planV at hx;obtain ⟨y,-,rfl⟩:=List.mem_map.1 hx;rfl
theorem plan_snoc (rs : List (Nat × Int)) (r : Nat × Int) : planV (rs ++ [r]) (rs.length + 1) = planV rs rs.length ++ [lrunV rs.length r]:=by
 unfold planV;rw [List.range_succ,List.map_append]
 congr 1
 ·apply List.map_congr_left
  intro o ho;have:=List.mem_range.1 ho;unfold rAt;rw [List.getD_eq_getElem?_getD,List.getElem?_append_left this,List.getD_eq_getElem?_getD]
 ·simp [rAt]
def RunOk (m : MillA) (o : Nat) (r : Nat × Int) : Prop:=r.1 < m.ws.length∧(m.o o).e≤r.2∧r.2 + (m.o o).v≤(m.o o).t
theorem rAt_snoc (rs : List (Nat × Int)) (r : Nat × Int) (o : Nat) : rAt (rs ++ [r]) o = if o < rs.length then rAt rs o else if o = rs.length then r else (0,0):=by
 unfold rAt;rw [List.getD_eq_getElem?_getD,List.getD_eq_getElem?_getD];by_cases h : o < rs.length
 ·rw [if_pos h,List.getElem?_append_left h]
 ·rw [if_neg h,List.getElem?_append_right (by omega)]
  by_cases h2 : o = rs.length
  ·rw [if_pos h2,h2,Nat.sub_self]; rfl
  ·rw [if_neg h2,List.getElem?_eq_none (by simp; omega)]; rfl
structure PlanTo (m : MillA) (al i : Nat) (kv : List (Int × AV)) (f : FixA) (rs : List (Nat × Int)) : Prop where
 len : rs.length = i
 kvs : FixM kv f
 fs : ∀ o,f o = if o < i then some (rAt rs o) else none
 ok : ∀ o,o < i → RunOk m o (rAt rs o)
 t : Tog m f (loomsR m.ws.length) al
theorem PlanTo.next {m : MillA} {al i : Nat} {kv kv' : List (Int × AV)} {f : FixA} {rs : List (Nat × Int)} (h : PlanTo m al i kv f rs) {loom : Nat} {d : Int} (h1 : FixM kv' (upd f i (loom,d))) (h2 : RunOk m i (loom,d)) (h3 : Tog m (upd f i (loom,d)) (loomsR m.ws.length) al) :
  PlanTo m al (i + 1) kv' (upd f i (loom,d)) (rs ++ [(loom,d)]) where
 len:=by rw [List.length_append,h.len]; rfl
 kvs:=h1
 fs:=fun o=>by
  rw [rAt_snoc,h.len];unfold upd;by_cases e : o = i
  ·subst e
   rw [if_pos rfl,if_pos (by omega),if_neg (by omega),if_pos rfl]
  ·rw [if_neg e,h.fs o]
   by_cases e2 : o < i
   ·rw [if_pos e2,if_pos (by omega),if_pos e2]
   ·rw [if_neg e2,if_neg (by omega)]
 ok:=fun o ho => by
  rw [rAt_snoc,h.len];by_cases e : o < i
  ·rw [if_pos e]; exact h.ok o e
  ·have : o = i:=by omega
   subst this;rw [if_neg e,if_pos rfl];exact h2
 t:=h3
theorem Plan_ok (m : MillA) (hm : m.Ok) : ∃ q,lim F 11 [.agg [.list 1 (widV m),iv m.ch],.list 5 (ordsV m)] = some q ∧
  ((Tog m (fun _=>none) (loomsR m.ws.length) (2 ^ m.os.length - 1)∧∃ rs,q = (.tuple [.own 3 (planV rs m.os.length),iv 0],[])∧rs.length = m.os.length∧∀ o,o < m.os.length → RunOk m o (rAt rs o)) ∨
   (¬ Tog m (fun _=>none) (loomsR m.ws.length) (2 ^ m.os.length - 1)∧q = (.tuple [.own 3 [],iv 9],[]))):=by
 have hop:=loomOpen_ok m hm;have hlo:=looms_ok m hm;have hal:=all_ok m hm;have hz : FixV (.mapI .i64 [] []) (fun _=>none):=.some [] [] _ fun o=>rfl
 obtain ⟨q,hTg,c,rfl,hc⟩:=together_ok m hm hz fun o r h => by cases h
 have hNx:=fun (kv : List (Int × AV)) (f : FixA) (hkv : FixM kv f) hr (o : Nat) ho hT => next_ok m hm hkv hr o ho hT
 have n6:=hm.n6;have hp:=Nat.pow_pos (n:=m.os.length) (show 0 < 2 by omega)
 have l1:=ord_len m;have lr : (natsV (List.range m.ws.length)).length = m.ws.length:=by simp
 have lp : (natsV (List.range m.ws.length)).all AV.plain = true:=nat_plain _;have l3:=hm.l1;have hok:=fun o (h : o < m.os.length) => hm.o h
 unfold millV at *;have t1 : (natsV (List.range m.ws.length)).take m.ws.length = natsV (List.range m.ws.length):=List.take_of_length_le (by omega)
 generalize natsV (List.range m.ws.length) = LV at *;generalize ordsV m = es at *;generalize widV m = ws at *;have haln : 2 ^ m.os.length - 1 < 2 ^ m.os.length:=by omega
 generalize 2 ^ m.os.length - 1 = al at *;have c1:=hc al haln;have b1:=bools_get (c:=c) haln;have b2:=bools_len c (2 ^ m.os.length);have b3:=bools_plain c (2 ^ m.os.length);generalize boolsV c (2 ^ m.os.length) = BV at *;generalize 2 ^ m.os.length = NN at *;generalize hL : m.ws.length = L at *;have hmo : (Value.map none).oneCell' = true:=rfl;rcases Bool.eq_false_or_eq_true (c al) with hb | hb
 ·rw [hb] at c1 b1
  have hT:=c1.1 rfl;refine lim_ex (fn:=a11) (k:=2) (res:=[.tmp 4,.tmp 5]) rfl rfl rfl (by simp -implicitDefEqProofs(maxSteps:=9^7)(disch:=first|exact Yo rfl|omega|(simp only[go_sem]<;>omega)|fail)only[go_sem]) ?_
  try delta mvA
  try delta opA
  try delta tA
  simp -implicitDefEqProofs(maxSteps:=9^7)(disch:=first|exact Yo rfl|omega|(simp only[go_sem]<;>omega)|fail)only[go_sem]
  repeat(first|apply Ya|apply Yb|apply Yc|((first|apply Yd|apply Ye|apply Yf|apply Yg|apply Yh);simp -implicitDefEqProofs(maxSteps:=9^7)(disch:=first|exact Yo rfl|omega|(simp only[go_sem]<;>omega)|fail)only[go_sem,hop,hlo,lr,lp,t1,hTg,hal,haln,b1,b2,b3,l1,hmo,Int.ofNat_lt,Int.toNat_natCast]<;>try with_reducible rfl)|apply Yi|apply Yj|apply Yk|apply Yl|apply Ym|apply Yn)
  apply Yu m.os.length (fun i fr => ∃ kv f rs,fr = ⟨[(4,.slice 256 0 i),(6,.ptr 384 0 0),(7,.mapp 448),(30,iv (m.os.length : Int)),(31,iv (i : Int))],[(256,.arr 3 (planV rs i)),(384,.box [.list 1 ws,iv m.ch,.list 5 es]),(448,.mp .i64 kv)],[],10000000⟩∧PlanTo m al i kv f rs)
  ·simp -implicitDefEqProofs(maxSteps:=9^7)(disch:=first|exact Yo rfl|omega|(simp only[go_sem]<;>omega)|fail)only[go_sem,norm_eq,Ok.some]
   exact ⟨[],fun _=>none,[],rfl,rfl,fun o=>rfl,fun o=>by rw [if_neg (by omega)],fun o h => by omega,by rw [hL]; exact hT⟩
  rintro i fr hi ⟨kv,f,rs,rfl,hP⟩;have n1:=plan_len rs i;have t2 : (planV rs i).take i = planV rs i:=List.take_of_length_le (by omega)
  by_cases h' : i < m.os.length
  ·obtain ⟨q,hq,kv',loom,d,rfl,f1,f2,f3,f4,f5⟩:=hNx kv f hP.kvs (fun o r hr => by
    rw [hP.fs o] at hr;split at hr
    ·rename_i ho
     cases hr;have h1:=hP.ok o ho;have h2:=(hok o (by omega)).e1
     have h3:=(hok o (by omega)).t1
     have h4:=(hok o (by omega)).v1
     unfold RunOk at h1;omega
    ·cases hr) i h' (by have:=hP.t; rw [hL] at this; exact this)
   have hP2:=hP.next f1 ⟨by rw [hL]; exact f2,f3,f4⟩ (by rw [hL]; exact f5)
   have k1:=f1 i;rw [show upd f i (loom,d) i = some (loom,d) by simp [upd],Option.map_some] at k1
   have e1 : planV (rs ++ [(loom,d)]) (i + 1) = planV rs i ++ [lrunV i (loom,d)]:=by
    have:=plan_snoc rs (loom,d);rw [hP.len] at this;exact this
   unfold lrunV at k1 e1;generalize planV rs i = PV at *;repeat(first|apply Ya|apply Yb|apply Yc|((first|apply Yd|apply Ye|apply Yf|apply Yg|apply Yh);simp -implicitDefEqProofs(maxSteps:=9^7)(disch:=first|exact Yo rfl|omega|(simp only[go_sem]<;>omega)|fail)only[go_sem,h',Int.ofNat_lt,hq,k1,n1,t2]<;>try with_reducible rfl)|apply Yi|apply Yj|apply Yk|apply Yl|apply Ym|apply Yn)
   apply Ys
   ·simp -implicitDefEqProofs(maxSteps:=9^7)(disch:=first|exact Yo rfl|omega|(simp only[go_sem]<;>omega)|fail)only[go_sem,norm_eq,Ok.some]; with_reducible rfl
   refine ⟨h',kv',_,rs ++ [(loom,d)],?_,hP2⟩;rw [e1];simp
  ·obtain rfl : i = m.os.length:=by omega
   have p1:=plan_plain rs m.os.length;repeat(first|apply Ya|apply Yb|apply Yc|((first|apply Yd|apply Ye|apply Yf|apply Yg|apply Yh);simp -implicitDefEqProofs(maxSteps:=9^7)(disch:=first|exact Yo rfl|omega|(simp only[go_sem]<;>omega)|fail)only[go_sem,h',Int.ofNat_lt]<;>try with_reducible rfl)|apply Yi|apply Yj|apply Yk|apply Yl|apply Ym|apply Yn)
   refine finp_ret (r:=(.tuple [.own 3 (planV rs m.os.length),iv 0],[])) ?_ (.inl ⟨hT,rs,rfl,hP.len,hP.ok⟩);generalize planV rs m.os.length = PV at *;simp -implicitDefEqProofs(maxSteps:=9^7)(disch:=first|exact Yo rfl|omega|(simp only[go_sem]<;>omega)|fail)only[go_sem,n1,t2,p1]
 ·rw [hb] at c1 b1
  have hT : ¬ Tog m (fun _=>none) (loomsR L) al:=fun h=>by
   have:=c1.2 h;cases this
  refine lim_ex (fn:=a11) (k:=2) (res:=[.tmp 4,.tmp 5]) rfl rfl rfl (by simp -implicitDefEqProofs(maxSteps:=9^7)(disch:=first|exact Yo rfl|omega|(simp only[go_sem]<;>omega)|fail)only[go_sem]) ?_
  try delta mvA
  try delta opA
  try delta tA
  simp -implicitDefEqProofs(maxSteps:=9^7)(disch:=first|exact Yo rfl|omega|(simp only[go_sem]<;>omega)|fail)only[go_sem]
  repeat(first|apply Ya|apply Yb|apply Yc|((first|apply Yd|apply Ye|apply Yf|apply Yg|apply Yh);simp -implicitDefEqProofs(maxSteps:=9^7)(disch:=first|exact Yo rfl|omega|(simp only[go_sem]<;>omega)|fail)only[go_sem,hop,hlo,lr,lp,t1,hTg,hal,haln,b1,b2,b3,l1,hmo,Int.ofNat_lt,Int.toNat_natCast]<;>try with_reducible rfl)|apply Yi|apply Yj|apply Yk|apply Yl|apply Ym|apply Yn)
  refine finp_ret (r:=(.tuple [.own 3 [],iv 9],[])) ?_ (.inr ⟨hT,rfl⟩);simp -implicitDefEqProofs(maxSteps:=9^7)(disch:=first|exact Yo rfl|omega|(simp only[go_sem]<;>omega)|fail)only[go_sem]
end Go.Abs
set_option linter.all false
namespace Go.Abs
set_option maxRecDepth 10000
set_option maxHeartbeats 8000000
open Go.Abs.Lo (OrdA MillA FixA beg chg never canP Path Tog loomsR upd)
theorem cmp3_ok (a b : Int) : ∃ q,lim F 106 [iv a,iv b] = some q∧∃ c,q = (iv c,[]):=by
 have h : ∀ x : Int,lim F 140 [iv x] = some (.bool false,[]):=fun x=>by
  refine Yr (fn:=a140) (k:=1) (res:=[.tmp 2]) rfl rfl rfl (by simp -implicitDefEqProofs(maxSteps:=9^7)(disch:=first|exact Yo rfl|omega|(simp only[go_sem]<;>omega)|fail)only[go_sem]) ?_
  try delta mvA
  try delta opA
  try delta tA
  simp -implicitDefEqProofs(maxSteps:=9^7)(disch:=first|exact Yo rfl|omega|(simp only[go_sem]<;>omega)|fail)only[go_sem]
  repeat(first|apply Ya|apply Yb|apply Yc|((first|apply Yd|apply Ye|apply Yf|apply Yg|apply Yh);simp -implicitDefEqProofs(maxSteps:=9^7)(disch:=first|exact Yo rfl|omega|(simp only[go_sem]<;>omega)|fail)only[go_sem]<;>try with_reducible rfl)|apply Yi|apply Yj|apply Yk|apply Yl|apply Ym|apply Yn)
 have h1:=h a;have h2:=h b;by_cases c1 : a < b
 ·refine ⟨(iv (-1),[]),?_,-1,rfl⟩
  refine Yr (fn:=a106) (k:=2) (res:=[.tmp 4]) rfl rfl rfl (by simp -implicitDefEqProofs(maxSteps:=9^7)(disch:=first|exact Yo rfl|omega|(simp only[go_sem]<;>omega)|fail)only[go_sem]) ?_
  try delta mvA
  try delta opA
  try delta tA
  simp -implicitDefEqProofs(maxSteps:=9^7)(disch:=first|exact Yo rfl|omega|(simp only[go_sem]<;>omega)|fail)only[go_sem]
  repeat(first|apply Ya|apply Yb|apply Yc|((first|apply Yd|apply Ye|apply Yf|apply Yg|apply Yh);simp -implicitDefEqProofs(maxSteps:=9^7)(disch:=first|exact Yo rfl|omega|(simp only[go_sem]<;>omega)|fail)only[go_sem,h1,h2,c1]<;>try with_reducible rfl)|apply Yi|apply Yj|apply Yk|apply Yl|apply Ym|apply Yn)
 ·by_cases c2 : b < a
  ·refine ⟨(iv 1,[]),?_,1,rfl⟩
   refine Yr (fn:=a106) (k:=2) (res:=[.tmp 4]) rfl rfl rfl (by simp -implicitDefEqProofs(maxSteps:=9^7)(disch:=first|exact Yo rfl|omega|(simp only[go_sem]<;>omega)|fail)only[go_sem]) ?_
   try delta mvA
   try delta opA
   try delta tA
   simp -implicitDefEqProofs(maxSteps:=9^7)(disch:=first|exact Yo rfl|omega|(simp only[go_sem]<;>omega)|fail)only[go_sem]
   repeat(first|apply Ya|apply Yb|apply Yc|((first|apply Yd|apply Ye|apply Yf|apply Yg|apply Yh);simp -implicitDefEqProofs(maxSteps:=9^7)(disch:=first|exact Yo rfl|omega|(simp only[go_sem]<;>omega)|fail)only[go_sem,h1,h2,c1,c2]<;>try with_reducible rfl)|apply Yi|apply Yj|apply Yk|apply Yl|apply Ym|apply Yn)
  ·refine ⟨(iv 0,[]),?_,0,rfl⟩
   refine Yr (fn:=a106) (k:=2) (res:=[.tmp 4]) rfl rfl rfl (by simp -implicitDefEqProofs(maxSteps:=9^7)(disch:=first|exact Yo rfl|omega|(simp only[go_sem]<;>omega)|fail)only[go_sem]) ?_
   try delta mvA
   try delta opA
   try delta tA
   simp -implicitDefEqProofs(maxSteps:=9^7)(disch:=first|exact Yo rfl|omega|(simp only[go_sem]<;>omega)|fail)only[go_sem]
   repeat(first|apply Ya|apply Yb|apply Yc|((first|apply Yd|apply Ye|apply Yf|apply Yg|apply Yh);simp -implicitDefEqProofs(maxSteps:=9^7)(disch:=first|exact Yo rfl|omega|(simp only[go_sem]<;>omega)|fail)only[go_sem,h1,h2,c1,c2]<;>try with_reducible rfl)|apply Yi|apply Yj|apply Yk|apply Yl|apply Ym|apply Yn)
theorem compare_ok (a b : List Nat) (ha : a.length≤100) (hb : b.length≤100) : ∃ q,lim F 89 [.list 1 (natsV a),.list 1 (natsV b)] = some q∧∃ c,q = (iv c,[]):=by
 have ga:=fun i (h : i < a.length) => nats_at (l:=a) h
 have gb:=fun i (h : i < b.length) => nats_at (l:=b) h
 have la : (natsV a).length = a.length:=by simp
 have lb : (natsV b).length = b.length:=by simp
 generalize natsV a = A at *;generalize natsV b = B at *;refine lim_ex (fn:=a89) (k:=2) (res:=[.tmp 4]) rfl rfl rfl (by simp -implicitDefEqProofs(maxSteps:=9^7)(disch:=first|exact Yo rfl|omega|(simp only[go_sem]<;>omega)|fail)only[go_sem]) ?_
 try delta mvA
 try delta opA
 try delta tA
 simp -implicitDefEqProofs(maxSteps:=9^7)(disch:=first|exact Yo rfl|omega|(simp only[go_sem]<;>omega)|fail)only[go_sem]
 repeat(first|apply Ya|apply Yb|apply Yc|((first|apply Yd|apply Ye|apply Yf|apply Yg|apply Yh);simp -implicitDefEqProofs(maxSteps:=9^7)(disch:=first|exact Yo rfl|omega|(simp only[go_sem]<;>omega)|fail)only[go_sem,la]<;>try with_reducible rfl)|apply Yi|apply Yj|apply Yk|apply Yl|apply Ym|apply Yn)
 apply Yt a.length (fun i=>⟨[(0,.list 1 A),(1,.list 1 B),(9,.list 1 A),(10,iv (a.length : Int)),(11,iv (i : Int))],[],[],10000000⟩) (fun _=>True)
 ·simp -implicitDefEqProofs(maxSteps:=9^7)(disch:=first|exact Yo rfl|omega|(simp only[go_sem]<;>omega)|fail)only[go_sem,norm_eq,Ok.some]
  rfl
 ·trivial
 intro i hi _;by_cases h' : i < a.length
 ·have g1:=ga i h'
  by_cases h2 : i < b.length
  ·have g2:=gb i h2
   obtain ⟨q,hq,c,rfl⟩:=cmp3_ok ((a.getD i 0 : Nat) : Int) ((b.getD i 0 : Nat) : Int);generalize a.getD i 0 = x at *;generalize b.getD i 0 = y at *;by_cases c0 : c = 0
   ·subst c0
    repeat(first|apply Ya|apply Yb|apply Yc|((first|apply Yd|apply Ye|apply Yf|apply Yg|apply Yh);simp -implicitDefEqProofs(maxSteps:=9^7)(disch:=first|exact Yo rfl|omega|(simp only[go_sem]<;>omega)|fail)only[go_sem,h',h2,Int.ofNat_lt,la,lb,g1,g2,hq,show ¬ (b.length : Int)≤(i : Int) by omega,Int.toNat_natCast]<;>try with_reducible rfl)|apply Yi|apply Yj|apply Yk|apply Yl|apply Ym|apply Yn)
    apply Ys
    ·simp -implicitDefEqProofs(maxSteps:=9^7)(disch:=first|exact Yo rfl|omega|(simp only[go_sem]<;>omega)|fail)only[go_sem,norm_eq,Ok.some]; with_reducible rfl
    exact ⟨h',by simp,trivial⟩
   ·repeat(first|apply Ya|apply Yb|apply Yc|((first|apply Yd|apply Ye|apply Yf|apply Yg|apply Yh);simp -implicitDefEqProofs(maxSteps:=9^7)(disch:=first|exact Yo rfl|omega|(simp only[go_sem]<;>omega)|fail)only[go_sem,h',h2,Int.ofNat_lt,la,lb,g1,g2,hq,c0,show ¬ (b.length : Int)≤(i : Int) by omega,Int.toNat_natCast]<;>try with_reducible rfl)|apply Yi|apply Yj|apply Yk|apply Yl|apply Ym|apply Yn)
    refine finp_ret (r:=(iv c,[])) ?_ ⟨c,rfl⟩;simp -implicitDefEqProofs(maxSteps:=9^7)(disch:=first|exact Yo rfl|omega|(simp only[go_sem]<;>omega)|fail)only[go_sem]
  ·repeat(first|apply Ya|apply Yb|apply Yc|((first|apply Yd|apply Ye|apply Yf|apply Yg|apply Yh);simp -implicitDefEqProofs(maxSteps:=9^7)(disch:=first|exact Yo rfl|omega|(simp only[go_sem]<;>omega)|fail)only[go_sem,h',Int.ofNat_lt,la,lb,g1,show (b.length : Int)≤(i : Int) by omega,Int.toNat_natCast]<;>try with_reducible rfl)|apply Yi|apply Yj|apply Yk|apply Yl|apply Ym|apply Yn)
   refine finp_ret (r:=(iv 1,[])) ?_ ⟨1,rfl⟩;simp -implicitDefEqProofs(maxSteps:=9^7)(disch:=first|exact Yo rfl|omega|(simp only[go_sem]<;>omega)|fail)only[go_sem]
 ·obtain rfl : i = a.length:=by omega
  by_cases c : a.length < b.length
  ·repeat(first|apply Ya|apply Yb|apply Yc|((first|apply Yd|apply Ye|apply Yf|apply Yg|apply Yh);simp -implicitDefEqProofs(maxSteps:=9^7)(disch:=first|exact Yo rfl|omega|(simp only[go_sem]<;>omega)|fail)only[go_sem,h',Int.ofNat_lt,la,lb,c]<;>try with_reducible rfl)|apply Yi|apply Yj|apply Yk|apply Yl|apply Ym|apply Yn)
   refine finp_ret (r:=(iv (-1),[])) ?_ ⟨-1,rfl⟩;simp -implicitDefEqProofs(maxSteps:=9^7)(disch:=first|exact Yo rfl|omega|(simp only[go_sem]<;>omega)|fail)only[go_sem]
  ·repeat(first|apply Ya|apply Yb|apply Yc|((first|apply Yd|apply Ye|apply Yf|apply Yg|apply Yh);simp -implicitDefEqProofs(maxSteps:=9^7)(disch:=first|exact Yo rfl|omega|(simp only[go_sem]<;>omega)|fail)only[go_sem,h',Int.ofNat_lt,la,lb,c]<;>try with_reducible rfl)|apply Yi|apply Yj|apply Yk|apply Yl|apply Ym|apply Yn)
   refine finp_ret (r:=(iv 0,[])) ?_ ⟨0,rfl⟩;simp -implicitDefEqProofs(maxSteps:=9^7)(disch:=first|exact Yo rfl|omega|(simp only[go_sem]<;>omega)|fail)only[go_sem]
structure SmallTo (isB : Nat → Bool) (n : Nat) (ok : Bool) (L : List Nat) : Prop where
 yes : ok = true → ∃ s,s < n∧isB s = true∧L = numsL s∧∀ s',s' < n → isB s' = true → L.length≤(numsL s').length
 no : ok = false → L = []∧∀ s,s < n → isB s = false
theorem SmallTo.skip {isB : Nat → Bool} {n : Nat} {ok : Bool} {L : List Nat} (h : SmallTo isB n ok L) (hc : isB n = false ∨ ok = true∧L.length≤(numsL n).length) : SmallTo isB (n + 1) ok L where
 yes:=fun ho=>by
  obtain ⟨s,h1,h2,h3,h4⟩:=h.yes ho;refine ⟨s,by omega,h2,h3,fun s' h5 h6 => ?_⟩
  by_cases e : s' = n
  ·subst e
   rcases hc with hc | hc
   ·rw [hc] at h6; cases h6
   ·exact hc.2
  ·exact h4 s' (by omega) h6
 no:=fun ho=>by
  obtain ⟨h1,h2⟩:=h.no ho;refine ⟨h1,fun s h3 => ?_⟩
  by_cases e : s = n
  ·subst e
   rcases hc with hc | hc
   ·exact hc
   ·rw [ho] at hc; cases hc.1
  ·exact h2 s (by omega)
theorem SmallTo.take {isB : Nat → Bool} {n : Nat} {ok : Bool} {L : List Nat} (h : SmallTo isB n ok L) (hb : isB n = true) (hc : ok = false ∨ (numsL n).length≤L.length) : SmallTo isB (n + 1) true (numsL n) where
 yes:=fun _=>by
  refine ⟨n,by omega,hb,rfl,fun s' h5 h6 => ?_⟩
  by_cases e : s' = n
  ·subst e; exact Nat.le_refl _
  ·cases ok with
   | false =>
    have:=(h.no rfl).2 s' (by omega)
    rw [this] at h6; cases h6
   | true =>
    obtain ⟨s,h1,h2,h3,h4⟩:=h.yes rfl;have:=h4 s' (by omega) h6
    rcases hc with hc | hc
    ·cases hc
    ·omega
 no:=fun ho=>by cases ho
theorem nums_len (s : Nat) : (numsL s).length≤7:=bitsTo_len s 7
theorem smallest_ok (many : Nat) (hm : many≤6) (g : Nat) (x y : AV) (isB : Nat → Bool) (hg : ∀ s : Nat,s < 2 ^ many → lim F g [iv (s : Int),.iptr x 0,.iptr y 0] = some (.bool (isB s),[])) :
  ∃ q,lim F 53 [iv (many : Int),.func g [.iptr x 0,.iptr y 0]] = some q∧∃ L ok,q = (.tuple [.own 1 (natsV L),.bool ok],[])∧SmallTo isB (2 ^ many) ok L:=by
 have hp:=Nat.pow_pos (n:=many) (show 0 < 2 by omega)
 have hp2 : 2 ^ many≤2 ^ 6:=Nat.pow_le_pow_right (by omega) hm
 have sh:=w_shl1 many (by omega)
 have hNm:=fun s (h : s < 128) => numbers_ok s h
 generalize hNN : 2 ^ many = NN at *;refine lim_ex (fn:=a53) (k:=2) (res:=[.tmp 4,.tmp 5]) rfl rfl rfl (by simp -implicitDefEqProofs(maxSteps:=9^7)(disch:=first|exact Yo rfl|omega|(simp only[go_sem]<;>omega)|fail)only[go_sem]) ?_
 try delta mvA
 try delta opA
 try delta tA
 simp -implicitDefEqProofs(maxSteps:=9^7)(disch:=first|exact Yo rfl|omega|(simp only[go_sem]<;>omega)|fail)only[go_sem]
 repeat(first|apply Ya|apply Yb|apply Yc|((first|apply Yd|apply Ye|apply Yf|apply Yg|apply Yh);simp -implicitDefEqProofs(maxSteps:=9^7)(disch:=first|exact Yo rfl|omega|(simp only[go_sem]<;>omega)|fail)only[go_sem,sh]<;>try with_reducible rfl)|apply Yi|apply Yj|apply Yk|apply Yl|apply Ym|apply Yn)
 apply Yu NN (fun s fr => ∃ L ok,fr = ⟨[(1,.func g [.iptr x 0,.iptr y 0]),(4,.slice 256 0 L.length),(5,.bool ok),(9,iv (NN : Int)),(10,iv (s : Int))],[(256,.arr 1 (natsV L))],[],10000000⟩∧L.length≤7∧SmallTo isB s ok L)
 ·simp -implicitDefEqProofs(maxSteps:=9^7)(disch:=first|exact Yo rfl|omega|(simp only[go_sem]<;>omega)|fail)only[go_sem,norm_eq,Ok.some]
  exact ⟨[],false,rfl,by simp,(by intro h; cases h),fun _=>⟨rfl,fun s h => by omega⟩⟩
 rintro s fr hs ⟨L,ok,rfl,hL7,hS⟩;have n1 : (natsV L).length = L.length:=by simp
 have t1 : (natsV L).take L.length = natsV L:=List.take_of_length_le (by omega)
 have p1 : (natsV L).all AV.plain = true:=nat_plain L;by_cases h' : s < NN
 ·have hq:=hNm s (by omega)
  have hi:=hg s h';have l7:=nums_len s;have m1 : (natsV (numsL s)).length = (numsL s).length:=by simp
  have m2 : (natsV (numsL s)).take (numsL s).length = natsV (numsL s):=List.take_of_length_le (by omega)
  have m3 : (natsV (numsL s)).all AV.plain = true:=nat_plain _;obtain ⟨q,hcq,c,rfl⟩:=compare_ok (numsL s) L (by omega) (by omega)
  have k1:=hS.skip;have k2:=hS.take;generalize hns : numsL s = l at *;generalize isB s = b at *;cases ok with
  | false =>
   cases b with
   | false =>
    repeat(first|apply Ya|apply Yb|apply Yc|((first|apply Yd|apply Ye|apply Yf|apply Yg|apply Yh);simp -implicitDefEqProofs(maxSteps:=9^7)(disch:=first|exact Yo rfl|omega|(simp only[go_sem]<;>omega)|fail)only[go_sem,h',Int.ofNat_lt,hq,hi,m1,m3]<;>try with_reducible rfl)|apply Yi|apply Yj|apply Yk|apply Yl|apply Ym|apply Yn)
    apply Ys
    ·simp -implicitDefEqProofs(maxSteps:=9^7)(disch:=first|exact Yo rfl|omega|(simp only[go_sem]<;>omega)|fail)only[go_sem,norm_eq,Ok.some]; with_reducible rfl
    exact ⟨h',L,false,by simp,hL7,k1 (.inl rfl)⟩
   | true =>
    repeat(first|apply Ya|apply Yb|apply Yc|((first|apply Yd|apply Ye|apply Yf|apply Yg|apply Yh);simp -implicitDefEqProofs(maxSteps:=9^7)(disch:=first|exact Yo rfl|omega|(simp only[go_sem]<;>omega)|fail)only[go_sem,h',Int.ofNat_lt,hq,hi,m1,m3]<;>try with_reducible rfl)|apply Yi|apply Yj|apply Yk|apply Yl|apply Ym|apply Yn)
    apply Ys
    ·simp -implicitDefEqProofs(maxSteps:=9^7)(disch:=first|exact Yo rfl|omega|(simp only[go_sem]<;>omega)|fail)only[go_sem,norm_eq,Ok.some]; with_reducible rfl
    exact ⟨h',l,true,by simp,l7,k2 rfl (.inl rfl)⟩
  | true =>
   by_cases c1 : L.length < l.length
   ·repeat(first|apply Ya|apply Yb|apply Yc|((first|apply Yd|apply Ye|apply Yf|apply Yg|apply Yh);simp -implicitDefEqProofs(maxSteps:=9^7)(disch:=first|exact Yo rfl|omega|(simp only[go_sem]<;>omega)|fail)only[go_sem,h',Int.ofNat_lt,hq,hi,m1,m3,n1,c1]<;>try with_reducible rfl)|apply Yi|apply Yj|apply Yk|apply Yl|apply Ym|apply Yn)
    apply Ys
    ·simp -implicitDefEqProofs(maxSteps:=9^7)(disch:=first|exact Yo rfl|omega|(simp only[go_sem]<;>omega)|fail)only[go_sem,norm_eq,Ok.some]; with_reducible rfl
    exact ⟨h',L,true,by simp,hL7,k1 (.inr ⟨rfl,by omega⟩)⟩
   ·by_cases c2 : l.length = L.length
    ·have c2i : (l.length : Int) = (L.length : Int):=by omega
     by_cases c3 : 0 < c
     ·repeat(first|apply Ya|apply Yb|apply Yc|((first|apply Yd|apply Ye|apply Yf|apply Yg|apply Yh);simp -implicitDefEqProofs(maxSteps:=9^7)(disch:=first|exact Yo rfl|omega|(simp only[go_sem]<;>omega)|fail)only[go_sem,h',Int.ofNat_lt,hq,hi,m1,m2,m3,n1,t1,p1,c1,c2i,hcq,c3,Int.lt_irrefl]<;>try with_reducible rfl)|apply Yi|apply Yj|apply Yk|apply Yl|apply Ym|apply Yn)
      apply Ys
      ·simp -implicitDefEqProofs(maxSteps:=9^7)(disch:=first|exact Yo rfl|omega|(simp only[go_sem]<;>omega)|fail)only[go_sem,norm_eq,Ok.some]; with_reducible rfl
      exact ⟨h',L,true,by simp,hL7,k1 (.inr ⟨rfl,by omega⟩)⟩
     ·cases b with
      | false =>
       repeat(first|apply Ya|apply Yb|apply Yc|((first|apply Yd|apply Ye|apply Yf|apply Yg|apply Yh);simp -implicitDefEqProofs(maxSteps:=9^7)(disch:=first|exact Yo rfl|omega|(simp only[go_sem]<;>omega)|fail)only[go_sem,h',Int.ofNat_lt,hq,hi,m1,m2,m3,n1,t1,p1,c1,c2i,hcq,c3,Int.lt_irrefl]<;>try with_reducible rfl)|apply Yi|apply Yj|apply Yk|apply Yl|apply Ym|apply Yn)
       apply Ys
       ·simp -implicitDefEqProofs(maxSteps:=9^7)(disch:=first|exact Yo rfl|omega|(simp only[go_sem]<;>omega)|fail)only[go_sem,norm_eq,Ok.some]; with_reducible rfl
       exact ⟨h',L,true,by simp,hL7,k1 (.inl rfl)⟩
      | true =>
       repeat(first|apply Ya|apply Yb|apply Yc|((first|apply Yd|apply Ye|apply Yf|apply Yg|apply Yh);simp -implicitDefEqProofs(maxSteps:=9^7)(disch:=first|exact Yo rfl|omega|(simp only[go_sem]<;>omega)|fail)only[go_sem,h',Int.ofNat_lt,hq,hi,m1,m2,m3,n1,t1,p1,c1,c2i,hcq,c3,Int.lt_irrefl]<;>try with_reducible rfl)|apply Yi|apply Yj|apply Yk|apply Yl|apply Ym|apply Yn)
       apply Ys
       ·simp -implicitDefEqProofs(maxSteps:=9^7)(disch:=first|exact Yo rfl|omega|(simp only[go_sem]<;>omega)|fail)only[go_sem,norm_eq,Ok.some]; with_reducible rfl
       exact ⟨h',l,true,by simp,l7,k2 rfl (.inr (by omega))⟩
    ·have c2' : ¬ (l.length : Int) = (L.length : Int):=by omega
     cases b with
     | false =>
      repeat(first|apply Ya|apply Yb|apply Yc|((first|apply Yd|apply Ye|apply Yf|apply Yg|apply Yh);simp -implicitDefEqProofs(maxSteps:=9^7)(disch:=first|exact Yo rfl|omega|(simp only[go_sem]<;>omega)|fail)only[go_sem,h',Int.ofNat_lt,hq,hi,m1,m3,n1,c1,c2']<;>try with_reducible rfl)|apply Yi|apply Yj|apply Yk|apply Yl|apply Ym|apply Yn)
      apply Ys
      ·simp -implicitDefEqProofs(maxSteps:=9^7)(disch:=first|exact Yo rfl|omega|(simp only[go_sem]<;>omega)|fail)only[go_sem,norm_eq,Ok.some]; with_reducible rfl
      exact ⟨h',L,true,by simp,hL7,k1 (.inl rfl)⟩
     | true =>
      repeat(first|apply Ya|apply Yb|apply Yc|((first|apply Yd|apply Ye|apply Yf|apply Yg|apply Yh);simp -implicitDefEqProofs(maxSteps:=9^7)(disch:=first|exact Yo rfl|omega|(simp only[go_sem]<;>omega)|fail)only[go_sem,h',Int.ofNat_lt,hq,hi,m1,m3,n1,c1,c2']<;>try with_reducible rfl)|apply Yi|apply Yj|apply Yk|apply Yl|apply Ym|apply Yn)
      apply Ys
      ·simp -implicitDefEqProofs(maxSteps:=9^7)(disch:=first|exact Yo rfl|omega|(simp only[go_sem]<;>omega)|fail)only[go_sem,norm_eq,Ok.some]; with_reducible rfl
      exact ⟨h',l,true,by simp,l7,k2 rfl (.inr (by omega))⟩
 ·obtain rfl : s = NN:=by omega
  repeat(first|apply Ya|apply Yb|apply Yc|((first|apply Yd|apply Ye|apply Yf|apply Yg|apply Yh);simp -implicitDefEqProofs(maxSteps:=9^7)(disch:=first|exact Yo rfl|omega|(simp only[go_sem]<;>omega)|fail)only[go_sem,h',Int.ofNat_lt]<;>try with_reducible rfl)|apply Yi|apply Yj|apply Yk|apply Yl|apply Ym|apply Yn)
  refine finp_ret (r:=(.tuple [.own 1 (natsV L),.bool ok],[])) ?_ ⟨L,ok,rfl,hS⟩;generalize natsV L = RV at *;simp -implicitDefEqProofs(maxSteps:=9^7)(disch:=first|exact Yo rfl|omega|(simp only[go_sem]<;>omega)|fail)only[go_sem,n1,t1,p1]
end Go.Abs
set_option linter.all false
namespace Go.Abs
set_option maxRecDepth 10000
set_option maxHeartbeats 8000000
open Go.Abs.Lo (OrdA MillA FixA beg chg never canP Path Tog loomsR upd)
theorem Left_ok (m : MillA) (hm : m.Ok) : ∃ q,lim F 22 [.agg [.list 1 (widV m),iv m.ch],.list 5 (ordsV m)] = some q ∧
  ∃ L,q = (.tuple [.own 1 (natsV L),iv 0],[])∧∃ s,s < 2 ^ m.os.length∧L = numsL s∧Tog m (fun _=>none) (loomsR m.ws.length) (andN (2 ^ m.os.length - 1) s) ∧
   ∀ s',s' < 2 ^ m.os.length → Tog m (fun _=>none) (loomsR m.ws.length) (andN (2 ^ m.os.length - 1) s') → L.length≤(numsL s').length:=by
 have hop:=loomOpen_ok m hm;have hlo:=looms_ok m hm;have hal:=all_ok m hm;obtain ⟨q,hTg,c,rfl,hc⟩:=together_ok m hm .no fun o r h => by cases h
 have n6:=hm.n6;have hp:=Nat.pow_pos (n:=m.os.length) (show 0 < 2 by omega)
 have hp2 : 2 ^ m.os.length≤2 ^ 6:=Nat.pow_le_pow_right (by omega) n6
 have hG : ∀ s : Nat,s < 2 ^ m.os.length → lim F 54 [iv (s : Int),.iptr (.agg [.list 1 (boolsV c (2 ^ m.os.length))]) 0,.iptr (millV m) 0] = some (.bool (c (andN (2 ^ m.os.length - 1) s)),[]):=fun s hs => by
  have an:=w_andN (2 ^ m.os.length - 1) s (by omega)
  have hle:=andN_le (a:=2 ^ m.os.length - 1) (b:=s) (by omega)
  have b1:=bools_get (c:=c) (N:=2 ^ m.os.length) (i:=andN (2 ^ m.os.length - 1) s) (by omega)
  have b2:=bools_len c (2 ^ m.os.length);have hlt : andN (2 ^ m.os.length - 1) s < 2 ^ m.os.length:=by omega
  unfold millV at *;generalize andN (2 ^ m.os.length - 1) s = a at *;generalize 2 ^ m.os.length - 1 = al at *;generalize boolsV c (2 ^ m.os.length) = BV at *;generalize 2 ^ m.os.length = NN at *;refine Yr (fn:=a54) (k:=3) (res:=[.tmp 4]) rfl rfl rfl (by simp -implicitDefEqProofs(maxSteps:=9^7)(disch:=first|exact Yo rfl|omega|(simp only[go_sem]<;>omega)|fail)only[go_sem]) ?_
  try delta mvA
  try delta opA
  try delta tA
  simp -implicitDefEqProofs(maxSteps:=9^7)(disch:=first|exact Yo rfl|omega|(simp only[go_sem]<;>omega)|fail)only[go_sem]
  repeat(first|apply Ya|apply Yb|apply Yc|((first|apply Yd|apply Ye|apply Yf|apply Yg|apply Yh);simp -implicitDefEqProofs(maxSteps:=9^7)(disch:=first|exact Yo rfl|omega|(simp only[go_sem]<;>omega)|fail)only[go_sem,hal,an,b1,b2,hlt,Int.ofNat_lt,Int.toNat_natCast]<;>try with_reducible rfl)|apply Yi|apply Yj|apply Yk|apply Yl|apply Ym|apply Yn)
 have hS:=smallest_ok m.os.length n6 54 (.agg [.list 1 (boolsV c (2 ^ m.os.length))]) (millV m) (fun s=>c (andN (2 ^ m.os.length - 1) s)) hG
 obtain ⟨q,hSm,L,ok,rfl,hs⟩:=hS;have hok : ok = true:=by
  cases ok with
  | true => rfl
  | false =>
   have h1:=(hs.no rfl).2 (2 ^ m.os.length - 1) (by omega)
   rw [Lo.andN_self _ (by omega)] at h1
   have h2:=(hc 0 hp).2 (Lo.zero_tog _ _ _);rw [h1] at h2;cases h2
 subst hok;obtain ⟨s,s1,s2,s3,s4⟩:=hs.yes rfl;have hle:=fun s=>andN_le (a:=2 ^ m.os.length - 1) (b:=s) (show 2 ^ m.os.length - 1 < 9223372036854775808 by omega)
 have fin : ∃ s,s < 2 ^ m.os.length∧L = numsL s∧Tog m (fun _=>none) (loomsR m.ws.length) (andN (2 ^ m.os.length - 1) s) ∧
   ∀ s',s' < 2 ^ m.os.length → Tog m (fun _=>none) (loomsR m.ws.length) (andN (2 ^ m.os.length - 1) s') → L.length≤(numsL s').length :=
  ⟨s,s1,s3,(hc _ (by have:=hle s; omega)).1 s2,fun s' h1 h2 => s4 s' h1 ((hc _ (by have:=hle s'; omega)).2 h2)⟩
 have l1:=ord_len m;have lr : (natsV (List.range m.ws.length)).length = m.ws.length:=by simp
 have lp : (natsV (List.range m.ws.length)).all AV.plain = true:=nat_plain _;have l3:=hm.l1;have L7 : L.length≤7:=by rw [s3]; exact nums_len s
 have n1 : (natsV L).length = L.length:=by simp
 have t2 : (natsV L).take L.length = natsV L:=List.take_of_length_le (by omega)
 have p1 : (natsV L).all AV.plain = true:=nat_plain L;unfold millV at *;have t1 : (natsV (List.range m.ws.length)).take m.ws.length = natsV (List.range m.ws.length):=List.take_of_length_le (by omega)
 have b2:=bools_len c (2 ^ m.os.length);have b3:=bools_plain c (2 ^ m.os.length);have b4 : (boolsV c (2 ^ m.os.length)).take (2 ^ m.os.length) = boolsV c (2 ^ m.os.length):=List.take_of_length_le (by omega)
 generalize natsV (List.range m.ws.length) = LV at *;generalize ordsV m = es at *;generalize widV m = ws at *;generalize boolsV c (2 ^ m.os.length) = BV at *;generalize hNN : 2 ^ m.os.length = NN at *;clear hG;refine lim_ex (fn:=a22) (k:=2) (res:=[.tmp 4,.tmp 5]) rfl rfl rfl (by simp -implicitDefEqProofs(maxSteps:=9^7)(disch:=first|exact Yo rfl|omega|(simp only[go_sem]<;>omega)|fail)only[go_sem]) ?_
 try delta mvA
 try delta opA
 try delta tA
 simp -implicitDefEqProofs(maxSteps:=9^7)(disch:=first|exact Yo rfl|omega|(simp only[go_sem]<;>omega)|fail)only[go_sem]
 repeat(first|apply Ya|apply Yb|apply Yc|((first|apply Yd|apply Ye|apply Yf|apply Yg|apply Yh);simp -implicitDefEqProofs(maxSteps:=9^7)(disch:=first|exact Yo rfl|omega|(simp only[go_sem]<;>omega)|fail)only[go_sem,hop,hlo,lr,lp,t1,hTg,b2,b3,b4,l1,hSm,n1,t2,p1]<;>try with_reducible rfl)|apply Yi|apply Yj|apply Yk|apply Yl|apply Ym|apply Yn)
 refine finp_ret (r:=(.tuple [.own 1 (natsV L),iv 0],[])) ?_ ⟨L,rfl,fin⟩;generalize natsV L = RV at *;simp -implicitDefEqProofs(maxSteps:=9^7)(disch:=first|exact Yo rfl|omega|(simp only[go_sem]<;>omega)|fail)only[go_sem,n1,t2,p1]
end Go.Abs
