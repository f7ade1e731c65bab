/-
 The tops over looms in bytes: designs, copies of them, of chains, of steps. No condition beyond those that each theorem names.
-/
import Derived.Test.YtgpbjihpkoiaiaaCB
import Derived.Test.YtgpbjihpkoiaiaaU1
set_option linter.all false
namespace Go.Abs
set_option maxRecDepth 10000
set_option maxHeartbeats 4000000
abbrev ByteB := Fin 256
def bytesV (l : List ByteB) : List AV := l.map fun r => .int .u8 (r.1 : Int)
@[simp] theorem bytes_len (l : List ByteB) : (bytesV l).length = l.length := by simp [bytesV]
structure LoomB where
 hooks : ByteB
 warps : List ByteB
 rows : List WordB
 cards : List ByteB
def LoomB.av (x : LoomB) : AV := .agg [.int .u8 (x.hooks.1 : Int),.list 1 (bytesV x.warps),.list 1 (wordsV x.rows),.list 1 (bytesV x.cards)]
def asrc (l : List WordB) (i : Nat) : Nat := (l[i]?.map fun r => r.1).getD 21
def armN (x : LoomB) : DesN := ⟨1 + x.hooks.1 % 12,(List.range (max 1 (min x.rows.length 10))).map fun i => asrc x.rows i % 2 ^ (1 + x.hooks.1 % 12)⟩
theorem arm_ok (x : LoomB) : (armN x).Ok where
 h1 := by unfold armN; dsimp only; omega
 h24 := by unfold armN; dsimp only; omega
 r1 := by simp [armN]; omega
 r60 := by simp [armN]; omega
 lt := fun r hr => by
  obtain ⟨q,_,rfl⟩ := List.mem_map.1 hr;exact Nat.mod_lt _ (Nat.pow_pos (by omega))
theorem arm_rows (x : LoomB) : 1 ≤ (armN x).rows.length ∧ (armN x).rows.length ≤ 10 := by simp [armN]; omega
theorem asrc_lt (l : List WordB) (i : Nat) : asrc l i < 65536 := by
 unfold asrc;cases h : l[i]? with
 | none => simp
 | some r => exact r.2
theorem armDesign_ok (x : LoomB) : lim F 10 [x.av] = some (.agg [iv ((armN x).hk : Int),.own 1 (natsV (armN x).rows)],[]) := by
 obtain ⟨⟨v,hv⟩,wa,l,ca⟩ := x;have e0 : Int.tmod (v : Int) 12 = ((v % 12 : Nat) : Int) := by rw [Int.tmod_eq_emod_of_nonneg (Int.natCast_nonneg _)]; rfl
 have hml := Nat.mod_lt v (show 0 < 12 by omega)
 have hlen : (wordsV l).length = l.length := by simp
 have hg : ∀ i (h : i < l.length),(wordsV l)[i]? = some (.int .u16 (asrc l i : Int)) := fun i h => by
  unfold asrc wordsV;rw [List.getElem?_map,List.getElem?_eq_getElem h]; rfl
 have hno : ∀ i,¬ i < l.length → asrc l i = 21 := fun i h => by
  unfold asrc;rw [List.getElem?_eq_none (by omega)]; rfl
 unfold armN LoomB.av;dsimp only;have hhk : ((1 + v % 12 : Nat) : Int) = 1 + ((v % 12 : Nat) : Int) := by omega
 have hk8 : 1 + v % 12 ≤ 12 := by omega
 have u1 : IntKind.wrap .u64 (((1 + v % 12 : Nat) : Int)) = ((1 + v % 12 : Nat) : Int) := wrap_u64 (by omega) (by omega)
 generalize v % 12 = q at *;generalize hH : 1 + q = H at *;have s1 := w_shl1 H (by omega)
 have p1 : 2 ^ H ≤ 2 ^ 12 := Nat.pow_le_pow_right (by omega) (by omega)
 have p2 : 0 < 2 ^ H := Nat.pow_pos (by omega)
 have hand : ∀ x : Nat,x < 65536 → IntKind.wrap .i64 ((BitVec.ofInt (IntKind.bits .i64) (x : Int) &&& BitVec.ofInt (IntKind.bits .i64) (((2 ^ H : Nat) : Int) - 1)).toNat : Int) = ((x % 2 ^ H : Nat) : Int) := fun x hx => by
  rw [show ((2 ^ H : Nat) : Int) - 1 = ((2 ^ H - 1 : Nat) : Int) by omega,w_and x (2 ^ H - 1) (by omega) (by omega),Nat.and_two_pow_sub_one_eq_mod]
 have hstep : ∀ n,natsV ((List.range (n + 1)).map fun i => asrc l i % 2 ^ H) = natsV ((List.range n).map fun i => asrc l i % 2 ^ H) ++ [iv ((asrc l n % 2 ^ H : Nat) : Int)] := fun n => by
  unfold natsV;rw [List.range_succ,List.map_append,List.map_append]; rfl
 have hnl : ∀ n,(natsV ((List.range n).map fun i => asrc l i % 2 ^ H)).length = n := fun n => by simp
 have hpl : ∀ n,(natsV ((List.range n).map fun i => asrc l i % 2 ^ H)).all AV.plain = true := fun n => nat_plain _
 generalize wordsV l = es at *;generalize bytesV wa = ws at *;generalize bytesV ca = cs at *;refine Yr (fn:=a10) (k:=1) (res:=[.cell 2 2 true]) rfl rfl rfl (by simp -implicitDefEqProofs(maxSteps:=9^7)(disch:=first|exact Yo rfl|omega|(simp only[go_sem]<;>omega)|fail)only[go_sem]) ?_
 try delta mvA
 try delta opA
 try delta tA
 simp -implicitDefEqProofs(maxSteps:=9^7)(disch:=first|exact Yo rfl|omega|(simp only[go_sem]<;>omega)|fail)only[go_sem]
 repeat(first|apply Ya|apply Yb|apply Yc|((first|apply Yd|apply Ye|apply Yf|apply Yg|apply Yh);simp -implicitDefEqProofs(maxSteps:=9^7)(disch:=first|exact Yo rfl|omega|(simp only[go_sem]<;>omega)|fail)only[go_sem,e0,← hhk]<;>try with_reducible rfl)|apply Yi|apply Yj|apply Yk|apply Yl|apply Ym|apply Yn)
 generalize hN : max 1 (min l.length 10) = N at *;apply Yt N (fun i => ⟨[(1,.ptr 64 0 0),(2,.ptr 128 0 0),(3,.ptr 192 0 0),(4,iv (i : Int))],[(64,.box [.int .u8 (v : Int),.list 1 ws,.list 1 es,.list 1 cs]),(128,.box [iv 0,.slice 302049 0 0]),(192,.box [iv (H : Int),.slice 303073 0 i]),(302049,.arr 1 []),(303073,.arr 1 (natsV ((List.range i).map fun i => asrc l i % 2 ^ H)))],[],10000000⟩) (fun _ => True)
 ·simp -implicitDefEqProofs(maxSteps:=9^7)(disch:=first|exact Yo rfl|omega|(simp only[go_sem]<;>omega)|fail)only[go_sem,norm_eq,Ok.some]
  rfl
 ·trivial
 intro i hi _;have n1 := hnl i;have P1 := hpl i;have t1 : (natsV ((List.range i).map fun i => asrc l i % 2 ^ H)).take i = natsV ((List.range i).map fun i => asrc l i % 2 ^ H) := List.take_of_length_le (by omega)
 by_cases h' : i < N
 ·rw [hstep i]
  have hcond : (i : Int) = 0 ∨ (¬ (i : Int) = 0 ∧ (i : Int) < l.length ∧ (i : Int) < 10) := by omega
  by_cases hl : i < l.length
  ·have a1 := hg i hl
   have w1 := asrc_lt l i;have e1 := hand (asrc l i) w1;have e2 : asrc l i % 2 ^ H < 2 ^ H := Nat.mod_lt _ p2;clear hstep hnl hpl hg hno hand;generalize natsV ((List.range i).map fun i => asrc l i % 2 ^ H) = L at *
   generalize asrc l i % 2 ^ H = r at *;generalize asrc l i = x at *;generalize 2 ^ H = pk at *;rcases hcond with h0 | ⟨h0,h1,h2⟩
   ·have h0' := eq_true h0
    clear h0;repeat(first|apply Ya|apply Yb|apply Yc|((first|apply Yd|apply Ye|apply Yf|apply Yg|apply Yh);simp -implicitDefEqProofs(maxSteps:=9^7)(disch:=first|exact Yo rfl|omega|(simp only[go_sem]<;>omega)|fail)only[go_sem,h0',hl,Int.ofNat_lt,hlen,a1,e1,u1,s1,Int.toNat_natCast,n1,t1,decide_true,decide_false]<;>try with_reducible rfl)|apply Yi|apply Yj|apply Yk|apply Yl|apply Ym|apply Yn)
    apply Ys
    ·simp -implicitDefEqProofs(maxSteps:=9^7)(disch:=first|exact Yo rfl|omega|(simp only[go_sem]<;>omega)|fail)only[go_sem,norm_eq,Ok.some]; with_reducible rfl
    exact ⟨h',by simp,trivial⟩
   ·repeat(first|apply Ya|apply Yb|apply Yc|((first|apply Yd|apply Ye|apply Yf|apply Yg|apply Yh);simp -implicitDefEqProofs(maxSteps:=9^7)(disch:=first|exact Yo rfl|omega|(simp only[go_sem]<;>omega)|fail)only[go_sem,h0,h1,h2,hl,Int.ofNat_lt,hlen,a1,e1,u1,s1,Int.toNat_natCast,n1,t1,decide_true,decide_false]<;>try with_reducible rfl)|apply Yi|apply Yj|apply Yk|apply Yl|apply Ym|apply Yn)
    apply Ys
    ·simp -implicitDefEqProofs(maxSteps:=9^7)(disch:=first|exact Yo rfl|omega|(simp only[go_sem]<;>omega)|fail)only[go_sem,norm_eq,Ok.some]; with_reducible rfl
    exact ⟨h',by simp,trivial⟩
  ·have hi0 : i = 0 := by omega
   have e1 := hand 21 (by omega)
   have e3 : asrc l i = 21 := hno i hl;rw [e3];subst hi0;have e2 : 21 % 2 ^ H < 2 ^ H := Nat.mod_lt _ p2;have h0' : (((0 : Nat) : Int) = 0) = True := eq_true rfl;clear hstep hnl hpl hg hno hand;generalize 21 % 2 ^ H = r at *;generalize 2 ^ H = pk at *;repeat(first|apply Ya|apply Yb|apply Yc|((first|apply Yd|apply Ye|apply Yf|apply Yg|apply Yh);simp -implicitDefEqProofs(maxSteps:=9^7)(disch:=first|exact Yo rfl|omega|(simp only[go_sem]<;>omega)|fail)only[go_sem,h0',hl,Int.ofNat_lt,hlen,n1,e1,u1,s1,decide_true,decide_false,Int.toNat_natCast]<;>try with_reducible rfl)|apply Yi|apply Yj|apply Yk|apply Yl|apply Ym|apply Yn)
   apply Ys
   ·simp -implicitDefEqProofs(maxSteps:=9^7)(disch:=first|exact Yo rfl|omega|(simp only[go_sem]<;>omega)|fail)only[go_sem,norm_eq,Ok.some]; with_reducible rfl
   exact ⟨h',by simp; simpa using e1,trivial⟩
 ·obtain rfl : i = N := by omega
  have h0 : ¬ (i : Int) = 0 := by omega
  clear hstep hnl hpl hg hno hand;generalize natsV ((List.range i).map fun i => asrc l i % 2 ^ H) = L at *
  by_cases hl : (i : Int) < l.length
  ·repeat(first|apply Ya|apply Yb|apply Yc|((first|apply Yd|apply Ye|apply Yf|apply Yg|apply Yh);simp -implicitDefEqProofs(maxSteps:=9^7)(disch:=first|exact Yo rfl|omega|(simp only[go_sem]<;>omega)|fail)only[go_sem,h0,hl,hlen,n1,P1,t1,decide_true,decide_false,show ¬ (i : Int) < 10 by omega]<;>try with_reducible rfl)|apply Yi|apply Yj|apply Yk|apply Yl|apply Ym|apply Yn)
  ·repeat(first|apply Ya|apply Yb|apply Yc|((first|apply Yd|apply Ye|apply Yf|apply Yg|apply Yh);simp -implicitDefEqProofs(maxSteps:=9^7)(disch:=first|exact Yo rfl|omega|(simp only[go_sem]<;>omega)|fail)only[go_sem,h0,hl,hlen,n1,P1,t1,decide_true,decide_false]<;>try with_reducible rfl)|apply Yi|apply Yj|apply Yk|apply Yl|apply Ym|apply Yn)
theorem armInts_ok (es : List AV) (hp : es.all AV.plain = true) (h : es.length ≤ 1000) : lim F 21 [.list 1 es] = some (.own 1 es,[]) := by
 have htk : es.take es.length = es := List.take_of_length_le (by omega)
 refine Yr (fn:=a21) (k:=1) (res:=[.tmp 2]) rfl rfl rfl (by simp -implicitDefEqProofs(maxSteps:=9^7)(disch:=first|exact Yo rfl|omega|(simp only[go_sem]<;>omega)|fail)only[go_sem]) ?_
 try delta mvA
 try delta opA
 try delta tA
 simp -implicitDefEqProofs(maxSteps:=9^7)(disch:=first|exact Yo rfl|omega|(simp only[go_sem]<;>omega)|fail)only[go_sem]
 repeat(first|apply Ya|apply Yb|apply Yc|((first|apply Yd|apply Ye|apply Yf|apply Yg|apply Yh);simp -implicitDefEqProofs(maxSteps:=9^7)(disch:=first|exact Yo rfl|omega|(simp only[go_sem]<;>omega)|fail)only[go_sem,htk,hp]<;>try with_reducible rfl)|apply Yi|apply Yj|apply Yk|apply Yl|apply Ym|apply Yn)
theorem armOwn_ok (d : DesN) (h : d.rows.length ≤ 1000) : lim F 25 [.agg [iv (d.hk : Int),.list 1 (natsV d.rows)]] = some (.agg [iv (d.hk : Int),.own 1 (natsV d.rows)],[]) := by
 have hln : (natsV d.rows).length = d.rows.length := by simp
 have ha := armInts_ok (natsV d.rows) (nat_plain _) (by omega)
 have htk : (natsV d.rows).take d.rows.length = natsV d.rows := List.take_of_length_le (by omega)
 have hpl : (natsV d.rows).all AV.plain = true := nat_plain _;generalize natsV d.rows = ps at *;refine Yr (fn:=a25) (k:=1) (res:=[.cell 2 2 true]) rfl rfl rfl (by simp -implicitDefEqProofs(maxSteps:=9^7)(disch:=first|exact Yo rfl|omega|(simp only[go_sem]<;>omega)|fail)only[go_sem]) ?_
 try delta mvA
 try delta opA
 try delta tA
 simp -implicitDefEqProofs(maxSteps:=9^7)(disch:=first|exact Yo rfl|omega|(simp only[go_sem]<;>omega)|fail)only[go_sem]
 repeat(first|apply Ya|apply Yb|apply Yc|((first|apply Yd|apply Ye|apply Yf|apply Yg|apply Yh);simp -implicitDefEqProofs(maxSteps:=9^7)(disch:=first|exact Yo rfl|omega|(simp only[go_sem]<;>omega)|fail)only[go_sem,ha,hln,htk,hpl]<;>try with_reducible rfl)|apply Yi|apply Yj|apply Yk|apply Yl|apply Ym|apply Yn)
end Go.Abs
