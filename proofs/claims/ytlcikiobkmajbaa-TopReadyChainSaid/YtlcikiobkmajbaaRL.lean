/-
 Several texts: RM, RN, RL.
-/
import Derived.Test.YtlcikiobkmajbaaLS2
import Derived.Test.YtlcikiobkmajbaaCB
import Derived.Test.YtlcikiobkmajbaaRG
import Derived.Test.YtlcikiobkmajbaaU1
set_option linter.all false
namespace Go.Abs
set_option maxRecDepth 10000
set_option maxHeartbeats 4000000
abbrev Byt:=Fin 256
def bytsV (l : List Byt) : List AV:=l.map fun r=>.int .u8 (r.1 : Int)
theorem byts_len (l : List Byt) : (bytsV l).length = l.length:=by simp [bytsV]
theorem pubByte_ok (by' : List Byt) (i : Nat) (hi : i < 1000) : ∃ b : Nat,lim F 61 [.list 1 (bytsV by'),iv (i : Int)] = some (iv (b : Int),[])∧b < 256:=by
 have lbl:=byts_len by'
 by_cases c : by'.length = 0
 ·refine ⟨0,?_,by omega⟩
  generalize bytsV by' = bs at *
  refine Yr (fn:=a61) (k:=2) (res:=[.tmp 4]) rfl rfl rfl (by simp -implicitDefEqProofs(maxSteps:=9^7)(disch:=first|exact Yo rfl|omega|(simp only[go_sem]<;>omega)|fail)only[go_sem]) ?_
  try delta mvA
  try delta opA
  try delta tA
  simp -implicitDefEqProofs(maxSteps:=9^7)(disch:=first|exact Yo rfl|omega|(simp only[go_sem]<;>omega)|fail)only[go_sem]
  repeat(first|apply Ya|apply Yb|apply Yc|((first|apply Yd|apply Ye|apply Yf|apply Yg|apply Yh);simp -implicitDefEqProofs(maxSteps:=9^7)(disch:=first|exact Yo rfl|omega|(simp only[go_sem]<;>omega)|fail)only[go_sem,lbl,c]<;>try with_reducible rfl)|apply Yi|apply Yj|apply Yk|apply Yl|apply Ym|apply Yn)
  try rfl
 ·have hm:=Nat.mod_lt i (show 0 < by'.length by omega)
  have hg : (bytsV by')[i % by'.length]? = some (.int .u8 ((by'[i % by'.length].1 : Nat) : Int)):=by
   unfold bytsV;rw [List.getElem?_map,List.getElem?_eq_getElem hm]; rfl
  have e : Int.tmod (i : Int) (by'.length : Int) = ((i % by'.length : Nat) : Int):=by rw [Int.tmod_eq_emod_of_nonneg (Int.natCast_nonneg _)]; rfl
  have hb:=by'[i % by'.length].2
  refine ⟨by'[i % by'.length].1,?_,hb⟩
  generalize by'[i % by'.length].1 = v at *
  generalize bytsV by' = bs at *
  generalize i % by'.length = k at *
  generalize by'.length = n at *
  refine Yr (fn:=a61) (k:=2) (res:=[.tmp 4]) rfl rfl rfl (by simp -implicitDefEqProofs(maxSteps:=9^7)(disch:=first|exact Yo rfl|omega|(simp only[go_sem]<;>omega)|fail)only[go_sem]) ?_
  try delta mvA
  try delta opA
  try delta tA
  simp -implicitDefEqProofs(maxSteps:=9^7)(disch:=first|exact Yo rfl|omega|(simp only[go_sem]<;>omega)|fail)only[go_sem]
  repeat(first|apply Ya|apply Yb|apply Yc|((first|apply Yd|apply Ye|apply Yf|apply Yg|apply Yh);simp -implicitDefEqProofs(maxSteps:=9^7)(disch:=first|exact Yo rfl|omega|(simp only[go_sem]<;>omega)|fail)only[go_sem,lbl,e,hg,hm,Int.ofNat_lt,Int.toNat_natCast,show ¬ (n : Int) = 0 by omega]<;>try with_reducible rfl)|apply Yi|apply Yj|apply Yk|apply Yl|apply Ym|apply Yn)
def crV (L : List CardN) : List AV:=L.map CardN.av
def crAt (L : List CardN) (i : Nat) : CardN:=L.getD i ⟨0,0,false⟩
theorem cr_len (L : List CardN) : (crV L).length = L.length:=by simp [crV]
theorem cr_get {L : List CardN} {i : Nat} (h : i < L.length) : (crV L)[i]? = some (.agg [iv ((crAt L i).num : Int),iv ((crAt L i).row : Int),.bool (crAt L i).turned]):=by
 unfold crV crAt;rw [List.getElem?_map,List.getElem?_eq_getElem h,List.getD_eq_getElem?_getD,List.getElem?_eq_getElem h]; rfl
theorem cr_plain (L : List CardN) : (crV L).all AV.plain = true:=card_plain L
theorem cr_set (L : List CardN) (i : Nat) (c : CardN) : (crV L).set i (.agg [iv (c.num : Int),iv (c.row : Int),.bool c.turned]) = crV (L.set i c):=by
 unfold crV;rw [List.map_set]; rfl
theorem pubBelt_ok (hk : Int) (L : List CardN) (h : L.length≤1000) : lim F 60 [.agg [iv hk,.list 3 (crV L)]] = some (.agg [iv hk,.own 3 (crV L)],[]):=by
 have h1:=cr_len L;have h2:=cr_plain L;have htk : (crV L).take L.length = crV L:=List.take_of_length_le (by omega)
 generalize crV L = es at *;refine Yr (fn:=a60) (k:=1) (res:=[.cell 2 2 true]) rfl rfl rfl (by simp -implicitDefEqProofs(maxSteps:=9^7)(disch:=first|exact Yo rfl|omega|(simp only[go_sem]<;>omega)|fail)only[go_sem]) ?_
 try delta mvA
 try delta opA
 try delta tA
 simp -implicitDefEqProofs(maxSteps:=9^7)(disch:=first|exact Yo rfl|omega|(simp only[go_sem]<;>omega)|fail)only[go_sem]
 repeat(first|apply Ya|apply Yb|apply Yc|((first|apply Yd|apply Ye|apply Yf|apply Yg|apply Yh);simp -implicitDefEqProofs(maxSteps:=9^7)(disch:=first|exact Yo rfl|omega|(simp only[go_sem]<;>omega)|fail)only[go_sem,htk,h1,h2]<;>try with_reducible rfl)|apply Yi|apply Yj|apply Yk|apply Yl|apply Ym|apply Yn)
structure CardMix (hk n : Nat) (L : List CardN) : Prop where
 len : L.length = n
 nd : (L.map (·.num)).Nodup
 ok : ∀ c ∈ L,c.num≤59∧c.row < 2 ^ hk
theorem CardMix.swap {hk n i k : Nat} {L : List CardN} (h : CardMix hk n L) (hi : i < n) (hkn : k < n) : CardMix hk n ((L.set k (crAt L i)).set i (crAt L k)):=by
 have hl:=h.len;have e : ∀ j,(hj : j < L.length) → crAt L j = L[j]:=fun j hj => by
  unfold crAt;rw [List.getD_eq_getElem?_getD,List.getElem?_eq_getElem hj]; rfl
 rw [e k (by omega),e i (by omega)]
 have hp:=@List.set_set_perm _ L k i (by omega) (by omega)
 exact ⟨by simp [hl],(hp.map (·.num)).nodup_iff.2 h.nd,fun x hx => h.ok x (hp.mem_iff.1 hx)⟩
theorem CardMix.turn {hk n i : Nat} {L : List CardN} (h : CardMix hk n L) (hi : i < n) (t : Bool) : CardMix hk n (L.set i ⟨(crAt L i).num,(crAt L i).row,t⟩):=by
 have hl:=h.len;have e : crAt L i = L[i]'(by omega):=by
  unfold crAt;rw [List.getD_eq_getElem?_getD,List.getElem?_eq_getElem (by omega)]; rfl
 rw [e];refine ⟨by simp [hl],?_,fun x hx => ?_⟩
 ·rw [List.map_set,show (⟨(L[i]'(by omega)).num,(L[i]'(by omega)).row,t⟩ : CardN).num = (L.map (·.num))[i]'(by simp; omega) by simp,List.set_getElem_self]
  exact h.nd
 ·rcases List.mem_or_eq_of_mem_set hx with q | q
  ·exact h.ok x q
  ·rw [q]
   exact h.ok (L[i]'(by omega)) (List.getElem_mem _)
theorem crAt_set {L : List CardN} {i k : Nat} (h : i < L.length) (c : CardN) : crAt (L.set i c) k = if i = k then c else crAt L k:=by
 unfold crAt;rw [List.getD_eq_getElem?_getD,List.getD_eq_getElem?_getD];by_cases e : i = k
 ·subst e
  rw [if_pos rfl,List.getElem?_set_self h]; rfl
 ·rw [if_neg e,List.getElem?_set_ne e]
theorem pubMixed_ok (hk n : Nat) (L : List CardN) (hL : CardMix hk n L) (h0 : 0 < n) (h60 : n≤60) (mix : List Byt) : ∃ q,lim F 27 [.agg [iv (hk : Int),.list 3 (crV L)],.list 1 (bytsV mix)] = some q ∧
  ∃ M,q = (.agg [iv (hk : Int),.own 3 (crV M)],[])∧CardMix hk n M:=by
 have hB:=pubByte_ok mix;have hBe:=pubBelt_ok (hk : Int) L (by have:=hL.len; omega)
 have hll:=cr_len L;have hln:=hL.len;have hpl:=cr_plain L;generalize bytsV mix = bs at *;have htk : (crV L).take n = crV L:=List.take_of_length_le (by omega)
 refine lim_ex (fn:=a27) (k:=2) (res:=[.cell 4 2 true]) rfl rfl rfl (by simp -implicitDefEqProofs(maxSteps:=9^7)(disch:=first|exact Yo rfl|omega|(simp only[go_sem]<;>omega)|fail)only[go_sem]) ?_
 try delta mvA
 try delta opA
 try delta tA
 simp -implicitDefEqProofs(maxSteps:=9^7)(disch:=first|exact Yo rfl|omega|(simp only[go_sem]<;>omega)|fail)only[go_sem]
 repeat(first|apply Ya|apply Yb|apply Yc|((first|apply Yd|apply Ye|apply Yf|apply Yg|apply Yh);simp -implicitDefEqProofs(maxSteps:=9^7)(disch:=first|exact Yo rfl|omega|(simp only[go_sem]<;>omega)|fail)only[go_sem,hBe,hll,hln,hpl,htk]<;>try with_reducible rfl)|apply Yi|apply Yj|apply Yk|apply Yl|apply Ym|apply Yn)
 apply Yu n (fun i fr => ∃ M,fr = ⟨[(1,.list 1 bs),(2,.ptr 128 0 0),(4,.ptr 256 0 0),(5,iv (i : Int))],[(128,.box [iv (hk : Int),.slice 302049 0 n]),(256,.box [iv 0,.slice 304097 0 0]),(302049,.arr 3 (crV M)),(304097,.arr 3 [])],[],10000000⟩∧CardMix hk n M)
 ·simp -implicitDefEqProofs(maxSteps:=9^7)(disch:=first|exact Yo rfl|omega|(simp only[go_sem]<;>omega)|fail)only[go_sem,norm_eq,Ok.some]
  exact ⟨L,rfl,hL⟩
 rintro i fr hi ⟨M,rfl,hM⟩;have m1:=cr_len M;have m2:=hM.len;have m3:=cr_plain M;have m4 : (crV M).take n = crV M:=List.take_of_length_le (by omega)
 by_cases h' : i < n
 ·obtain ⟨b,hb,hb2⟩:=hB i (by omega)
  obtain ⟨c,hc,hc2⟩:=hB (i + 1) (by omega)
  have ek : Int.tmod (b : Int) (n : Int) = ((b % n : Nat) : Int):=by rw [Int.tmod_eq_emod_of_nonneg (Int.natCast_nonneg _)]; rfl
  have et : Int.tmod (c : Int) 3 = ((c % 3 : Nat) : Int):=by rw [Int.tmod_eq_emod_of_nonneg (Int.natCast_nonneg _)]; rfl
  have hkn:=Nat.mod_lt b h0;generalize b % n = k at *;generalize c % 3 = c3 at *;have g1:=cr_get (L:=M) (i:=i) (by omega)
  have g2:=cr_get (L:=M) (i:=k) (by omega)
  have s1:=cr_set M k (crAt M i);have s2:=cr_set (M.set k (crAt M i)) i (crAt M k);have w1:=hM.swap h' hkn;have e1 : ((i + 1 : Nat) : Int) = (i : Int) + 1:=by omega
  rw [e1] at hc;have hdec : ∀ z : Nat,((decide ((z : Int) = 0)) : Bool) = decide (z = 0):=fun z=>by
   by_cases c : z = 0
   ·subst c; rfl
   ·rw [decide_eq_false c,decide_eq_false (by omega)]
  by_cases q : k = i
  ·subst q
   have w2 : (M.set k (crAt M k)).set k (crAt M k) = M.set k (crAt M k):=by rw [List.set_set]
   rw [w2] at w1;have a1 : crAt (M.set k (crAt M k)) k = crAt M k:=by rw [crAt_set (by omega),if_pos rfl]
   have w3:=w1.turn hkn (decide ((c3 : Int) = 0));have s3:=cr_set (M.set k (crAt M k)) k ⟨(crAt M k).num,(crAt M k).row,decide ((c3 : Int) = 0)⟩;have g3:=cr_get (L:=M.set k (crAt M k)) (i:=k) (by simp; omega)
   have l1 : (crV (M.set k (crAt M k))).length = n:=by rw [cr_len]; simp [m2]
   rw [a1] at w3 g3;dsimp only at s3;clear s2 w2 a1;generalize crAt M k = x at *;generalize M.set k x = M1 at *;generalize crV M = es at *;generalize crV M1 = es1 at *;repeat(first|apply Ya|apply Yb|apply Yc|((first|apply Yd|apply Ye|apply Yf|apply Yg|apply Yh);simp -implicitDefEqProofs(maxSteps:=9^7)(disch:=first|exact Yo rfl|omega|(simp only[go_sem]<;>omega)|fail)only[go_sem,h',Int.ofNat_lt,Int.toNat_natCast,hb,hc,m1,m2,ek,et,g1,s1,g3,s3,l1,show ¬ (n : Int) = 0 by omega]<;>try with_reducible rfl)|apply Yi|apply Yj|apply Yk|apply Yl|apply Ym|apply Yn)
   apply Ys
   ·simp -implicitDefEqProofs(maxSteps:=9^7)(disch:=first|exact Yo rfl|omega|(simp only[go_sem]<;>omega)|fail)only[go_sem,norm_eq,Ok.some]; with_reducible rfl
   refine ⟨h',_,?_,w3⟩;simp
  ·have a1 : crAt ((M.set k (crAt M i)).set i (crAt M k)) i = crAt M k:=by rw [crAt_set (by simp; omega),if_pos rfl]
   have w3:=w1.turn h' (decide ((c3 : Int) = 0));have s3:=cr_set ((M.set k (crAt M i)).set i (crAt M k)) i ⟨(crAt M k).num,(crAt M k).row,decide ((c3 : Int) = 0)⟩;have g3:=cr_get (L:=(M.set k (crAt M i)).set i (crAt M k)) (i:=i) (by simp; omega)
   have l1 : (crV (M.set k (crAt M i))).length = n:=by rw [cr_len]; simp [m2]
   have l2 : (crV ((M.set k (crAt M i)).set i (crAt M k))).length = n:=by rw [cr_len]; simp [m2]
   rw [a1] at w3 g3;dsimp only at s3;have a2 : crAt (M.set k (crAt M i)) i = crAt M i:=by rw [crAt_set (by omega),if_neg q]
   have g5:=cr_get (L:=M.set k (crAt M i)) (i:=i) (by simp; omega)
   rw [a2] at g5;clear a1 a2;generalize crAt M k = x at *;generalize crAt M i = y at *;generalize (M.set k y).set i x = M2 at *;generalize M.set k y = M1 at *;generalize crV M = es at *;generalize crV M2 = es2 at *;generalize crV M1 = es1 at *;repeat(first|apply Ya|apply Yb|apply Yc|((first|apply Yd|apply Ye|apply Yf|apply Yg|apply Yh);simp -implicitDefEqProofs(maxSteps:=9^7)(disch:=first|exact Yo rfl|omega|(simp only[go_sem]<;>omega)|fail)only[go_sem,h',Int.ofNat_lt,Int.toNat_natCast,hb,hc,m1,m2,ek,et,g1,g2,s1,s2,g3,g5,s3,l1,l2,hkn,show ¬ (n : Int) = 0 by omega,show ¬ (k : Int) = (i : Int) by omega]<;>try with_reducible rfl)|apply Yi|apply Yj|apply Yk|apply Yl|apply Ym|apply Yn)
   apply Ys
   ·simp -implicitDefEqProofs(maxSteps:=9^7)(disch:=first|exact Yo rfl|omega|(simp only[go_sem]<;>omega)|fail)only[go_sem,norm_eq,Ok.some]; with_reducible rfl
   refine ⟨h',_,?_,w3⟩;simp
 ·obtain rfl : i = n:=by omega
  repeat(first|apply Ya|apply Yb|apply Yc|((first|apply Yd|apply Ye|apply Yf|apply Yg|apply Yh);simp -implicitDefEqProofs(maxSteps:=9^7)(disch:=first|exact Yo rfl|omega|(simp only[go_sem]<;>omega)|fail)only[go_sem,h',Int.ofNat_lt,Int.toNat_natCast,m1,m2]<;>try with_reducible rfl)|apply Yi|apply Yj|apply Yk|apply Yl|apply Ym|apply Yn)
  refine finp_ret (r:=(.agg [iv (hk : Int),.own 3 (crV M)],[])) ?_ ⟨M,rfl,hM⟩;generalize crV M = es at *;simp -implicitDefEqProofs(maxSteps:=9^7)(disch:=first|exact Yo rfl|omega|(simp only[go_sem]<;>omega)|fail)only[go_sem,m1,m2,m3,m4]
end Go.Abs
set_option linter.all false
namespace Go.Abs
set_option maxRecDepth 10000
set_option maxHeartbeats 4000000
open Go.Abs.Lo (OrdA MillA Tog loomsR InRow Less)
theorem CardMix.num {hk n : Nat} {L : List CardN} (h : CardMix hk n L) : NumV (L.map fun c=>(c.num : Int)) (crV L) where
 len:=by simp [crV]
 get:=fun i hi => by
  rw [List.length_map] at hi;have e : numAt (L.map fun c=>(c.num : Int)) i = ((crAt L i).num : Int):=by
   unfold numAt crAt;rw [List.getD_eq_getElem?_getD,List.getElem?_map,List.getElem?_eq_getElem hi,List.getD_eq_getElem?_getD,List.getElem?_eq_getElem hi]; rfl
  rw [e];exact ⟨_,_,cr_get hi⟩
theorem Moved_mix {hk n : Nat} {L : List CardN} (h : CardMix hk n L) (h1 : 1≤hk) (h24 : hk≤24) (n1 : 1≤n) (n60 : n≤60) : ∃ ms : List Nat,lim F 26 [.agg [iv (hk : Int),.list 3 (crV L)]] = some (.tuple [.own 1 (natsV ms),iv 0],[])∧ms.length≤n:=by
 have hl:=h.len;have hO:=open_ok ⟨hk,L⟩ ⟨h1,h24,by dsimp only; omega,by dsimp only; omega,fun c hc => h.ok c hc⟩
 have ll : (L.map fun c=>(c.num : Int)).length = n:=by simp [hl]
 obtain ⟨q,h2,ms,rfl,h3⟩:=Moved_ok (L.map fun c=>(c.num : Int)) (crV L) h.num (hk : Int) (by omega) (by omega) (by
  have:=h.nd;rw [show (L.map fun c=>(c.num : Int)) = (L.map (·.num)).map fun n : Nat => (n : Int) by rw [List.map_map]; rfl]
  exact List.pairwise_map.2 (this.imp fun h e => h (by omega))) (fun x hx => by
  obtain ⟨c,_,rfl⟩:=List.mem_map.1 hx;omega) hO
 refine ⟨ms,h2,?_⟩;have:=Mo.stay_count (n:=(L.map fun c=>(c.num : Int)).length) (l:=ms) h3.asc h3.lt
 omega
structure EarlyTo (os ls : List OrdA) : Prop where
 len : ls.length = os.length
 v : ∀ i,i < os.length → ∃ e : Int,0≤e∧e≤300∧ls[i]? = some ⟨(os.getD i default).w,(os.getD i default).c,(os.getD i default).v,e,(os.getD i default).t⟩
theorem EarlyTo.init {os : List OrdA} (h : ∀ x ∈ os,x.Ok) : EarlyTo os os where
 len:=rfl
 v:=fun i hi => by
  have e : os[i]? = some (os.getD i default):=by rw [List.getD_eq_getElem?_getD,List.getElem?_eq_getElem hi]; rfl
  have hx:=(h (os.getD i default) (List.mem_of_getElem? e)).e1;exact ⟨_,hx.1,hx.2,e⟩
theorem EarlyTo.next {os ls : List OrdA} (h : EarlyTo os ls) {j : Nat} (hj : j < os.length) {e : Int} (h1 : 0≤e) (h2 : e≤300) :
  EarlyTo os (ls.set j ⟨(os.getD j default).w,(os.getD j default).c,(os.getD j default).v,e,(os.getD j default).t⟩) where
 len:=by simp [h.len]
 v:=fun i hi => by
  by_cases c : j = i
  ·subst c
   exact ⟨e,h1,h2,List.getElem?_set_self (by rw [h.len]; exact hj)⟩
  ·obtain ⟨e',q1,q2,q3⟩:=h.v i hi
   exact ⟨e',q1,q2,by rw [List.getElem?_set_ne c]; exact q3⟩
theorem EarlyTo.mill {m : MillA} (hm : InRow m) {ls : List OrdA} (h : EarlyTo m.os ls) : (⟨m.ws,m.ch,ls⟩ : MillA).Ok∧Less ⟨m.ws,m.ch,ls⟩ m:=by
 refine ⟨⟨hm.ok.l1,hm.ok.w1,hm.ok.ch1,by rw [h.len]; exact hm.ok.n6,fun x hxm => ?_⟩,⟨rfl,rfl,by dsimp only; rw [h.len],fun i hi => ?_⟩⟩
 ·obtain ⟨i,hi,rfl⟩:=List.getElem_of_mem hxm
  have hi' : i < m.os.length:=by rw [← h.len]; exact hi
  obtain ⟨e,q1,q2,q3⟩:=h.v i hi';rw [List.getElem?_eq_getElem hi] at q3;rw [Option.some.inj q3];have k:=hm.ok.o hi';exact ⟨k.w1,k.c1,k.v1,⟨q1,q2⟩,k.t1⟩
 ·dsimp only at hi
  rw [h.len] at hi;obtain ⟨e,q1,q2,q3⟩:=h.v i hi;have hz:=hm.e i hi;unfold MillA.o at *;dsimp only;rw [List.getD_eq_getElem?_getD (l:=ls),q3];exact ⟨rfl,rfl,by rw [hz]; exact q1,rfl,Int.le_refl _⟩
theorem nums_nil {s : Nat} (h7 : s < 128) : (numsL s).length = 0 ↔ s = 0:=by
 constructor
 ·intro h
  have h0:=List.eq_nil_of_length_eq_zero h;unfold numsL bitsTo at h0;rw [List.filter_eq_nil_iff] at h0;apply Nat.eq_of_testBit_eq;intro i;rw [Nat.zero_testBit];by_cases c : i < 7
  ·have:=h0 i (List.mem_range.2 c)
   simpa using this
  ·exact Nat.testBit_lt_two_pow (Nat.lt_of_lt_of_le h7 (Nat.le_trans (show 128≤2 ^ 7 by omega) (Nat.pow_le_pow_right (by omega) (by omega))))
 ·rintro rfl
  rfl
theorem ready_left {m : MillA} (hr : InRow m) {ls : List OrdA} (h : EarlyTo m.os ls) : ∃ A B : List Nat,lim F 22 [.agg [.list 1 (widV m),iv m.ch],.list 5 (ls.map ordV)] = some (.tuple [.own 1 (natsV A),iv 0],[]) ∧
  lim F 22 [.agg [.list 1 (widV m),iv m.ch],.list 5 (ordsV m)] = some (.tuple [.own 1 (natsV B),iv 0],[])∧B.length≤A.length∧A.length≤7∧B.length≤7 ∧ 
  ∃ (z : Int) (P : List AV),lim F 11 [.agg [.list 1 (widV m),iv m.ch],.list 5 (ls.map ordV)] = some (.tuple [.own 3 P,iv z],[])∧(z = 0 ↔ A.length = 0)∧P.all AV.plain = true∧P.length≤m.os.length ∧
   ∀ i,i < P.length → ∃ (lo : Nat) (f e : Int),P[i]? = some (.agg [iv (i : Int),iv (lo : Int),iv f])∧(ls.map ordV)[i]? = some (.agg [iv (m.o i).w,iv (m.o i).c,iv (m.o i).v,iv e,iv (m.o i).t])∧e≤f:=by
 obtain ⟨hl,hless⟩:=h.mill hr;have hm:=hr.ok;obtain ⟨qa,hLa,La,rfl,s,s1,rfl,s3,s4⟩:=Left_ok ⟨m.ws,m.ch,ls⟩ hl;obtain ⟨qb,hLb,Lb,rfl,t,t1,rfl,t3,t4⟩:=Left_ok m hm;obtain ⟨qc,hP,hq⟩:=Plan_ok ⟨m.ws,m.ch,ls⟩ hl;have e1 : ls.length = m.os.length:=h.len;have n6:=hm.n6;have hp6 : 2 ^ m.os.length≤2 ^ 6:=Nat.pow_le_pow_right (by omega) n6
 dsimp only at s1 s3 s4 hq;rw [e1] at s1 s3 s4 hq;have hz : Tog ⟨m.ws,m.ch,ls⟩ (fun _=>none) (loomsR m.ws.length) (2 ^ m.os.length - 1) ↔ (numsL s).length = 0:=by
  constructor
  ·intro hT
   have:=s4 0 (by omega) (by rw [Lo.andN_zero _ (by omega)]; exact hT)
   have e0 : (numsL 0).length = 0:=rfl;omega
  ·intro hL
   have:=(nums_nil (s:=s) (by omega)).1 hL
   subst this;rw [Lo.andN_zero _ (by omega)] at s3
   exact s3
 refine ⟨_,_,hLa,hLb,t4 s (by omega) (Tog.less hless s3),nums_len s,nums_len t,?_⟩
 rcases hq with ⟨hT,rs,rfl,r1,r2⟩ | ⟨hT,rfl⟩
 ·refine ⟨0,_,hP,⟨fun _=>hz.1 hT,fun _=>rfl⟩,plan_plain rs _,by rw [plan_len]; exact Nat.le_refl _,fun i hi => ?_⟩
  rw [plan_len] at hi;obtain ⟨e,q1,q2,q3⟩:=h.v i hi;obtain ⟨r3,r4,r5⟩:=r2 i hi;refine ⟨(rAt rs i).1,(rAt rs i).2,e,?_,by rw [List.getElem?_map,q3]; rfl,?_⟩
  ·have:=plan_get (rs:=rs) hi
   unfold lrunV at this;exact this
  ·unfold MillA.o at r4
   dsimp only at r4;rw [List.getD_eq_getElem?_getD,q3] at r4;exact r4
 ·exact ⟨9,[],hP,⟨fun h=>by omega,fun h=>absurd (hz.2 h) hT⟩,rfl,by simp,fun i hi => by simp at hi⟩
end Go.Abs
set_option linter.all false
namespace Go.Abs
set_option maxRecDepth 10000
set_option maxHeartbeats 8000000
open Go.Abs.Lo (OrdA MillA Tog loomsR InRow Less)
theorem punch_mix (d : DesN) (hd : d.Ok) : CardMix d.hk d.rows.length (punchN d).cards where
 len:=punch_len d
 nd:=by
  unfold punchN;dsimp only;rw [List.map_map,show ((fun c : CardN => c.num) ∘ fun p : Nat × Nat => (⟨p.2,p.1,false⟩ : CardN)) = Prod.snd from rfl]
  simp [List.nodup_range']
 ok:=fun c hc => (punch_ok d hd).lt c hc
theorem ready_main (kc : lim F 28 [] = some (.bool true,[])) (ks' : lim F 18 [] = some (.bool true,[])) (rows : List WordB) (mix : List (List Byt)) (l : List TriB) :
  lim F 5 [.list 1 (wordsV rows),.list 1 (mix.map fun m=>.list 1 (bytsV m)),.list 3 (trisV l)] = some (.bool true,[]):=by
 have hSh:=pubShed_ok 1 2 (by omega) (by omega) l
 rw [show ((1 : Nat) : Int) = 1 from rfl,show ((2 : Nat) : Int) = 2 from rfl] at hSh
 have hm:=shedM_ok 1 2 l;have hrow:=shedM_row 1 2 l;have n6:=hm.n6;have l3:=hm.l1;have hpw:=wid_plain (shedM 1 2 l);have hpo:=ords_plain (shedM 1 2 l);have lw:=wid_len (shedM 1 2 l);have lo':=ord_len (shedM 1 2 l);have hW:=pubWidths_ok (widV (shedM 1 2 l)) (shedM 1 2 l).ch hpw (by omega)
 have htw : (widV (shedM 1 2 l)).take (shedM 1 2 l).ws.length = widV (shedM 1 2 l):=List.take_of_length_le (by omega)
 have hto : (ordsV (shedM 1 2 l)).take (shedM 1 2 l).os.length = ordsV (shedM 1 2 l):=List.take_of_length_le (by omega)
 generalize shedM 1 2 l = m at *;have hO:=pubOrders_ok (ordsV m) hpo (by omega)
 have hD:=pubDesign_ok 3 (by omega) rows
 rw [show ((3 : Nat) : Int) = 3 from rfl] at hD
 have hd:=pub_ok 3 rows;have hdr:=pub_rows 3 rows;have hhk : (pubN 3 rows).hk = 5:=rfl;generalize pubN 3 rows = d at *;have hP:=Punch_ok d hd;have hmix:=punch_mix d hd;rw [hhk] at hmix hP;have hF : ∀ mx : List Byt,∃ (M : List CardN) (ms : List Nat),lim F 27 [.agg [iv 5,.list 3 (crV (punchN d).cards)],.list 1 (bytsV mx)] = some (.agg [iv 5,.own 3 (crV M)],[]) ∧
   lim F 26 [.agg [iv 5,.list 3 (crV M)]] = some (.tuple [.own 1 (natsV ms),iv 0],[])∧ms.length≤d.rows.length∧M.length = d.rows.length:=fun mx=>by
  obtain ⟨q,h1,M,rfl,hM⟩:=pubMixed_ok 5 d.rows.length (punchN d).cards hmix (by omega) (by omega) mx
  obtain ⟨ms,h2,h3⟩:=Moved_mix hM (by omega) (by omega) (by omega) (by omega)
  exact ⟨M,ms,h1,h2,h3,hM.len⟩
 have hpl:=punch_len d;have hcl:=cr_len (punchN d).cards;have hcp:=cr_plain (punchN d).cards;rw [hpl] at hcl;have hct : (crV (punchN d).cards).take d.rows.length = crV (punchN d).cards:=List.take_of_length_le (by omega)
 have hrl : (natsV d.rows).length = d.rows.length:=by simp
 have hrt : (natsV d.rows).take d.rows.length = natsV d.rows:=List.take_of_length_le (by omega)
 have hrp : (natsV d.rows).all AV.plain = true:=nat_plain _;unfold DesN.av at hP;rw [hhk] at hP hD;rw [show ((5 : Nat) : Int) = 5 from rfl] at hP hD
 have hP : lim F 24 [.agg [iv 5,.list 1 (natsV d.rows)]] = some (.tuple [.agg [iv 5,.own 3 (crV (punchN d).cards)],iv 0],[]):=hP;have lmx : (mix.map fun m=>AV.list 1 (bytsV m)).length = mix.length:=by simp
 have gmx:=fun i (h : i < mix.length) => show (mix.map fun m=>AV.list 1 (bytsV m))[i]? = some (.list 1 (bytsV (mix.getD i []))) by
  rw [List.getElem?_map,List.getElem?_eq_getElem h,List.getD_eq_getElem?_getD,List.getElem?_eq_getElem h]; rfl
 have hS0:=EarlyTo.init (os:=m.os) hm.os1;have hRL:=fun ls (h : EarlyTo m.os ls) => ready_left hrow h
 have hB0 : (bytsV []) = []:=rfl;have hOv : ordsV m = m.os.map ordV:=rfl;have hop : ∀ L : List OrdA,(L.map ordV).all AV.plain = true:=fun L=>by
  rw [List.all_eq_true];intro x hx;obtain ⟨y,-,rfl⟩:=List.mem_map.1 hx;rfl
 generalize crV (punchN d).cards = CV at *;generalize mix.map (fun m=>AV.list 1 (bytsV m)) = MV at *
 generalize natsV d.rows = RV at *;generalize wordsV rows = WO at *;generalize trisV l = TV at *;generalize d.rows.length = n at *;generalize hWV : widV m = WV at *;refine Yr (fn:=a5) (k:=3) (res:=[.tmp 6]) rfl rfl rfl (by simp -implicitDefEqProofs(maxSteps:=9^7)(disch:=first|exact Yo rfl|omega|(simp only[go_sem]<;>omega)|fail)only[go_sem]) ?_
 try delta mvA
 try delta opA
 try delta tA
 simp -implicitDefEqProofs(maxSteps:=9^7)(disch:=first|exact Yo rfl|omega|(simp only[go_sem]<;>omega)|fail)only[go_sem]
 repeat(first|apply Ya|apply Yb|apply Yc|((first|apply Yd|apply Ye|apply Yf|apply Yg|apply Yh);simp -implicitDefEqProofs(maxSteps:=9^7)(disch:=first|exact Yo rfl|omega|(simp only[go_sem]<;>omega)|fail)only[go_sem,hSh,hD,hP,hrl,hrt,hrp,hcl,hcp,hct,lw,lo',htw,hto,hpw,hpo,hO,show ¬ (n : Int) = 0 by omega]<;>try with_reducible rfl)|apply Yi|apply Yj|apply Yk|apply Yl|apply Ym|apply Yn)
 apply Yu m.os.length (fun i fr => ∃ ls,fr = ⟨[(1,.list 1 MV),(7,.ptr 448 0 0),(8,.slice 512 0 m.os.length),(9,.ptr 576 0 0),(11,.slice 704 0 m.os.length),(12,iv (i : Int))],[(448,.box [.slice 307168 0 m.ws.length,iv m.ch]),(512,.arr 5 (ordsV m)),(576,.box [iv 5,.slice 309217 0 n]),(704,.arr 5 (ls.map ordV)),(307168,.arr 1 WV),(309217,.arr 3 CV)],[],10000000⟩∧EarlyTo m.os ls)
 ·simp -implicitDefEqProofs(maxSteps:=9^7)(disch:=first|exact Yo rfl|omega|(simp only[go_sem]<;>omega)|fail)only[go_sem,norm_eq,Ok.some]
  exact ⟨m.os,rfl,hS0⟩
 rintro i fr hi ⟨ls,rfl,hS⟩;have lls : (ls.map ordV).length = m.os.length:=by rw [List.length_map,hS.len]
 have pls:=hop ls;have tls : (ls.map ordV).take m.os.length = ls.map ordV:=List.take_of_length_le (by omega)
 by_cases h' : i < m.os.length
 ·obtain ⟨e,q1,q2,q3⟩:=hS.v i h'
  have key : ∀ mx : List Byt,∃ (M : List AV) (ms : List Nat),lim F 27 [.agg [iv 5,.list 3 CV],.list 1 (bytsV mx)] = some (.agg [iv 5,.own 3 M],[]) ∧
    lim F 26 [.agg [iv 5,.list 3 M]] = some (.tuple [.own 1 (natsV ms),iv 0],[])∧ms.length≤n∧M.length = n∧M.all AV.plain = true∧EarlyTo m.os (ls.set i ⟨(m.os.getD i default).w,(m.os.getD i default).c,(m.os.getD i default).v,(ms.length : Int),(m.os.getD i default).t⟩):=fun mx=>by
   obtain ⟨M,ms,f1,f2,f3,f4⟩:=hF mx;exact ⟨crV M,ms,f1,f2,f3,by rw [cr_len,f4],cr_plain M,hS.next h' (by omega) (by omega)⟩
  generalize m.os.getD i default = o at *;have u1 : (ls.map ordV)[i]? = some (.agg [iv o.w,iv o.c,iv o.v,iv e,iv o.t]):=by rw [List.getElem?_map,q3]; rfl
  have u2 : ∀ x : Int,(ls.map ordV).set i (.agg [iv o.w,iv o.c,iv o.v,iv x,iv o.t]) = (ls.set i ⟨o.w,o.c,o.v,x,o.t⟩).map ordV:=fun x=>by rw [List.map_set]; rfl
  by_cases c : i < mix.length
  ·have g1:=gmx i c
   obtain ⟨M,ms,f1,f2,f3,f4,f5,f6⟩:=key (mix.getD i []);have u3:=u2 ms.length;have n1 : (natsV ms).length = ms.length:=by simp
   have t1 : (natsV ms).take ms.length = natsV ms:=List.take_of_length_le (by omega)
   have p1 : (natsV ms).all AV.plain = true:=nat_plain ms;have t2 : M.take n = M:=List.take_of_length_le (by omega)
   generalize bytsV (mix.getD i []) = BV at *;generalize natsV ms = NV at *;generalize ls.map ordV = LV at *;repeat(first|apply Ya|apply Yb|apply Yc|((first|apply Yd|apply Ye|apply Yf|apply Yg|apply Yh);simp -implicitDefEqProofs(maxSteps:=9^7)(disch:=first|exact Yo rfl|omega|(simp only[go_sem]<;>omega)|fail)only[go_sem,h',Int.ofNat_lt,Int.toNat_natCast,lmx,lls,c,g1,f1,f2,f4,f5,n1,t1,p1,t2,u1,u3,hcl,hct,hcp,show ¬ (n : Int) < (ms.length : Int) by omega]<;>try with_reducible rfl)|apply Yi|apply Yj|apply Yk|apply Yl|apply Ym|apply Yn)
   apply Ys
   ·simp -implicitDefEqProofs(maxSteps:=9^7)(disch:=first|exact Yo rfl|omega|(simp only[go_sem]<;>omega)|fail)only[go_sem,norm_eq,Ok.some]; with_reducible rfl
   refine ⟨h',_,?_,f6⟩;simp
  ·obtain ⟨M,ms,f1,f2,f3,f4,f5,f6⟩:=key []
   rw [hB0] at f1;have u3:=u2 ms.length;have n1 : (natsV ms).length = ms.length:=by simp
   have t1 : (natsV ms).take ms.length = natsV ms:=List.take_of_length_le (by omega)
   have p1 : (natsV ms).all AV.plain = true:=nat_plain ms;have t2 : M.take n = M:=List.take_of_length_le (by omega)
   generalize natsV ms = NV at *;generalize ls.map ordV = LV at *;repeat(first|apply Ya|apply Yb|apply Yc|((first|apply Yd|apply Ye|apply Yf|apply Yg|apply Yh);simp -implicitDefEqProofs(maxSteps:=9^7)(disch:=first|exact Yo rfl|omega|(simp only[go_sem]<;>omega)|fail)only[go_sem,h',Int.ofNat_lt,Int.toNat_natCast,lmx,lls,c,f1,f2,f4,f5,n1,t1,p1,t2,u1,u3,hcl,hct,hcp,show ¬ (n : Int) < (ms.length : Int) by omega]<;>try with_reducible rfl)|apply Yi|apply Yj|apply Yk|apply Yl|apply Ym|apply Yn)
   apply Ys
   ·simp -implicitDefEqProofs(maxSteps:=9^7)(disch:=first|exact Yo rfl|omega|(simp only[go_sem]<;>omega)|fail)only[go_sem,norm_eq,Ok.some]; with_reducible rfl
   refine ⟨h',_,?_,f6⟩;simp
 ·obtain rfl : i = m.os.length:=by omega
  obtain ⟨A,B,k1,k2,k3,k4,k5,z,P,k6,k7,k8,k9,k10⟩:=hRL ls hS;have hOl:=pubOrders_ok (ls.map ordV) pls (by omega)
  have n1 : (natsV A).length = A.length:=by simp
  have n2 : (natsV B).length = B.length:=by simp
  have t1 : (natsV A).take A.length = natsV A:=List.take_of_length_le (by omega)
  have t2 : (natsV B).take B.length = natsV B:=List.take_of_length_le (by omega)
  have p1 : (natsV A).all AV.plain = true:=nat_plain A;have p2 : (natsV B).all AV.plain = true:=nat_plain B;have t3 : P.take P.length = P:=List.take_of_length_le (Nat.le_refl _);generalize natsV A = AV1 at *;generalize natsV B = AV2 at *;generalize ls.map ordV = LV at *;generalize ordsV m = OV at *;have eP : P.length≤6:=by omega
  by_cases hz : z = 0
  ·have hA0:=k7.1 hz
   subst hz;repeat(first|apply Ya|apply Yb|apply Yc|((first|apply Yd|apply Ye|apply Yf|apply Yg|apply Yh);simp -implicitDefEqProofs(maxSteps:=9^7)(disch:=first|exact Yo rfl|omega|(simp only[go_sem]<;>omega)|fail)only[go_sem,h',Int.ofNat_lt,Int.toNat_natCast,lls,lo',lw,htw,hpw,hto,hpo,hO,hOl,tls,pls,hW,k1,k2,k6,n1,n2,t1,t2,t3,p1,p2,k8,hA0,show ¬ (0 : Int) < (B.length : Int) by omega,show ¬ (0 : Nat) < B.length by omega]<;>try with_reducible rfl)|apply Yi|apply Yj|apply Yk|apply Yl|apply Ym|apply Yn)
   apply Yt P.length (fun i=>⟨[(11,.slice 704 0 m.os.length),(20,.slice 1280 0 P.length),(22,iv (i : Int))],[(704,.arr 5 LV),(1280,.arr 3 P)],[],10000000⟩) (fun _=>True)
   ·simp -implicitDefEqProofs(maxSteps:=9^7)(disch:=first|exact Yo rfl|omega|(simp only[go_sem]<;>omega)|fail)only[go_sem,norm_eq,Ok.some]
    try rfl
   ·trivial
   intro j hj _;by_cases h2 : j < P.length
   ·obtain ⟨lo,f,e,g1,g2,g3⟩:=k10 j h2
    repeat(first|apply Ya|apply Yb|apply Yc|((first|apply Yd|apply Ye|apply Yf|apply Yg|apply Yh);simp -implicitDefEqProofs(maxSteps:=9^7)(disch:=first|exact Yo rfl|omega|(simp only[go_sem]<;>omega)|fail)only[go_sem,h2,Int.ofNat_lt,Int.toNat_natCast,lls,g1,g2,show j < m.os.length by omega,show ¬ (m.os.length : Int)≤(j : Int) by omega,show ¬ f < e by omega]<;>try with_reducible rfl)|apply Yi|apply Yj|apply Yk|apply Yl|apply Ym|apply Yn)
    apply Ys
    ·simp -implicitDefEqProofs(maxSteps:=9^7)(disch:=first|exact Yo rfl|omega|(simp only[go_sem]<;>omega)|fail)only[go_sem,norm_eq,Ok.some]; with_reducible rfl
    exact ⟨h2,by simp,trivial⟩
   ·obtain rfl : j = P.length:=by omega
    repeat(first|apply Ya|apply Yb|apply Yc|((first|apply Yd|apply Ye|apply Yf|apply Yg|apply Yh);simp -implicitDefEqProofs(maxSteps:=9^7)(disch:=first|exact Yo rfl|omega|(simp only[go_sem]<;>omega)|fail)only[go_sem,h2,Int.ofNat_lt,kc,ks']<;>try with_reducible rfl)|apply Yi|apply Yj|apply Yk|apply Yl|apply Ym|apply Yn)
  ·have hA0 : ¬ A.length = 0:=fun h=>hz (k7.2 h)
   repeat(first|apply Ya|apply Yb|apply Yc|((first|apply Yd|apply Ye|apply Yf|apply Yg|apply Yh);simp -implicitDefEqProofs(maxSteps:=9^7)(disch:=first|exact Yo rfl|omega|(simp only[go_sem]<;>omega)|fail)only[go_sem,h',Int.ofNat_lt,Int.toNat_natCast,lls,lo',lw,htw,hpw,hto,hpo,hO,hOl,tls,pls,hW,k1,k2,k6,n1,n2,t1,t2,t3,p1,p2,k8,hA0,hz,show ¬ (A.length : Int) < (B.length : Int) by omega,show ¬ (A.length : Int) = 0 by omega]<;>try with_reducible rfl)|apply Yi|apply Yj|apply Yk|apply Yl|apply Ym|apply Yn)
   apply Yt P.length (fun i=>⟨[(11,.slice 704 0 m.os.length),(20,.slice 1280 0 P.length),(22,iv (i : Int))],[(704,.arr 5 LV),(1280,.arr 3 P)],[],10000000⟩) (fun _=>True)
   ·simp -implicitDefEqProofs(maxSteps:=9^7)(disch:=first|exact Yo rfl|omega|(simp only[go_sem]<;>omega)|fail)only[go_sem,norm_eq,Ok.some]
    try rfl
   ·trivial
   intro j hj _;by_cases h2 : j < P.length
   ·obtain ⟨lo,f,e,g1,g2,g3⟩:=k10 j h2
    repeat(first|apply Ya|apply Yb|apply Yc|((first|apply Yd|apply Ye|apply Yf|apply Yg|apply Yh);simp -implicitDefEqProofs(maxSteps:=9^7)(disch:=first|exact Yo rfl|omega|(simp only[go_sem]<;>omega)|fail)only[go_sem,h2,Int.ofNat_lt,Int.toNat_natCast,lls,g1,g2,show j < m.os.length by omega,show ¬ (m.os.length : Int)≤(j : Int) by omega,show ¬ f < e by omega]<;>try with_reducible rfl)|apply Yi|apply Yj|apply Yk|apply Yl|apply Ym|apply Yn)
    apply Ys
    ·simp -implicitDefEqProofs(maxSteps:=9^7)(disch:=first|exact Yo rfl|omega|(simp only[go_sem]<;>omega)|fail)only[go_sem,norm_eq,Ok.some]; with_reducible rfl
    exact ⟨h2,by simp,trivial⟩
   ·obtain rfl : j = P.length:=by omega
    repeat(first|apply Ya|apply Yb|apply Yc|((first|apply Yd|apply Ye|apply Yf|apply Yg|apply Yh);simp -implicitDefEqProofs(maxSteps:=9^7)(disch:=first|exact Yo rfl|omega|(simp only[go_sem]<;>omega)|fail)only[go_sem,h2,Int.ofNat_lt,kc,ks']<;>try with_reducible rfl)|apply Yi|apply Yj|apply Yk|apply Yl|apply Ym|apply Yn)
end Go.Abs
