/-
 Chapter 3: the floats of a pick of cloth. No condition beyond those that each theorem names.
-/
import Derived.Test.YtgpbjihpkoiaiaaTB
import Derived.Test.YtgpbjihpkoiaiaaV0
set_option linter.all false
namespace Go.Abs
set_option maxRecDepth 10000
set_option maxHeartbeats 4000000
def sOf (l : List Bool) : List UInt8 := l.map fun b => if b then 120 else 46
@[simp] theorem sOf_len (l : List Bool) : (sOf l).length = l.length := by simp [sOf]
theorem sOf_at {l : List Bool} {i : Nat} (h : i < l.length) : (((sOf l).getD i 0).toNat : Int) = if gb l i then 120 else 46 := by
 unfold sOf;rw [List.getD_eq_getElem?_getD,List.getElem?_map,List.getElem?_eq_getElem h,gb_lt h];simp only [Option.map_some,Option.getD_some];cases l[i] <;> rfl
def ringS (r : Nat) (ws : List Nat) : List Bool := ws.map fun w => r.testBit w
@[simp] theorem ringS_len (r : Nat) (ws : List Nat) : (ringS r ws).length = ws.length := by simp [ringS]
theorem pick_ring (r : Nat) (ws : List Nat) : pickB r ws = sOf (ringS r ws) := by
 unfold pickB sOf ringS;rw [List.map_map]; rfl
theorem sbegins_ok (l : List Bool) (i : Nat) (hi : i < l.length) (hl : l.length ≤ 1000) : lim F 157 [iv (i : Int),.iptr (.agg [strA (sOf l)]) 0] = some (.bool (begs l i),[]) := by
 have g1 := sOf_at hi;have hm := Nat.mod_lt (i + l.length - 1) (show 0 < l.length by omega)
 have g2 := sOf_at hm;rw [gb_mod] at g2;have e : Int.tmod ((i : Int) + l.length - 1) (l.length : Int) = (((i + l.length - 1) % l.length : Nat) : Int) := by
  rw [show (i : Int) + l.length - 1 = ((i + l.length - 1 : Nat) : Int) by omega,Int.tmod_eq_emod_of_nonneg (Int.natCast_nonneg _)]; simp
 have hlen := sOf_len l;have hb : begs l i = (gb l i != gb l (i + l.length - 1)) := rfl;rw [hb];generalize sOf l = es at *;generalize (i + l.length - 1) % l.length = m at *;generalize gb l i = x at *;generalize gb l (i + l.length - 1) = y at *;cases x <;> cases y
 all_goals
  simp only [if_true,Bool.false_eq_true,if_false] at g1 g2;refine Yr (fn:=a157) (k:=2) (res:=[.tmp 3]) rfl rfl rfl (by simp -implicitDefEqProofs(maxSteps:=9^7)(disch:=first|exact Yo rfl|omega|(simp only[go_sem]<;>omega)|fail)only[go_sem]) ?_
  try delta mvA
  try delta opA
  try delta tA
  simp -implicitDefEqProofs(maxSteps:=9^7)(disch:=first|exact Yo rfl|omega|(simp only[go_sem]<;>omega)|fail)only[go_sem]
  repeat(first|apply Ya|apply Yb|apply Yc|((first|apply Yd|apply Ye|apply Yf|apply Yg|apply Yh);simp -implicitDefEqProofs(maxSteps:=9^7)(disch:=first|exact Yo rfl|omega|(simp only[go_sem]<;>omega)|fail)only[go_sem,hlen,g1,g2,e,hi,hm,Int.ofNat_lt,Int.toNat_natCast,show (l.length : Int) ≠ 0 by omega]<;>try with_reducible rfl)|apply Yi|apply Yj|apply Yk|apply Yl|apply Ym|apply Yn)
def sfV (x : RunT) : List AV := [.agg [iv 0,iv (x.first : Int),iv (x.len : Int),.bool x.up]]
theorem runsTo_jump {l : List Bool} {f n : Nat} (h : begs l f = true) (hb : ∀ k,1 ≤ k → k < n → begs l (f + k) = false) : ∀ j,j < n → runsTo l (f + 1 + j) = runsTo l f ++ [runAt l f]
 | 0,_ => by rw [Nat.add_zero,runsTo_succ,h,if_pos rfl]
 | j + 1,hj => by
  rw [← Nat.add_assoc,runsTo_succ,runsTo_jump h hb j (by omega),show f + 1 + j = f + (j + 1) by omega,hb (j + 1) (by omega) hj,if_neg (by simp),List.append_nil]
theorem runs_next {l : List Bool} {f : Nat} (hf : f < l.length) (h : begs l f = true) : runsTo l (min (f + lenT l f) l.length) = runsTo l f ++ [runAt l f] := by
 have hL := lenT_is h;have hp := hL.pos;have := runsTo_jump h hL.begs (min (f + lenT l f) l.length - (f + 1)) (by omega)
 rwa [show f + 1 + (min (f + lenT l f) l.length - (f + 1)) = min (f + lenT l f) l.length by omega] at this
theorem runsTo_none {l : List Bool} {i : Nat} (h : anyTo l i = false) : runsTo l i = [] := (anyTo_runs l i).1 h
theorem sfloats_guess (l : List Bool) (h0 : 0 < l.length) (hl : l.length ≤ 1000) : lim F 108 [strA (sOf l),.ylog none []] = some (.tuple [],[.ylog none ((runsT l).map sfV)]) := by
 have hlen := sOf_len l;have hB := fun (i : Nat) (hi : i < l.length) => sbegins_ok l i hi hl
 have hA := fun (i : Nat) (hi : i < l.length) => sOf_at hi
 have hz : anyTo l 0 = false := rfl;have eT : runsT l = runsTo l l.length ++ lastT l := rfl;generalize sOf l = es at *;refine Yr (fn:=a108) (k:=2) (res:=[]) rfl rfl rfl (by simp -implicitDefEqProofs(maxSteps:=9^7)(disch:=first|exact Yo rfl|omega|(simp only[go_sem]<;>omega)|fail)only[go_sem]) ?_
 try delta mvA
 try delta opA
 try delta tA
 simp -implicitDefEqProofs(maxSteps:=9^7)(disch:=first|exact Yo rfl|omega|(simp only[go_sem]<;>omega)|fail)only[go_sem]
 repeat(first|apply Ya|apply Yb|apply Yc|((first|apply Yd|apply Ye|apply Yf|apply Yg|apply Yh);simp -implicitDefEqProofs(maxSteps:=9^7)(disch:=first|exact Yo rfl|omega|(simp only[go_sem]<;>omega)|fail)only[go_sem,hlen]<;>try with_reducible rfl)|apply Yi|apply Yj|apply Yk|apply Yl|apply Ym|apply Yn)
 apply Yt l.length (fun i => ⟨[(1,.yieldT 200000),(2,.ptr 128 0 0),(4,.func 157 [.ptr 128 0 0]),(5,iv (i : Int))],[(128,.box [strA es]),(200000,.num 3500000),(3500000,.log none [])],[(200000,none)],10000000⟩) (fun i => anyTo l i = false)
 ·simp -implicitDefEqProofs(maxSteps:=9^7)(disch:=first|exact Yo rfl|omega|(simp only[go_sem]<;>omega)|fail)only[go_sem,norm_eq,Ok.some]
  rfl
 ·exact hz
 intro i hi hany;by_cases h : i < l.length
 ·have hb := hB i h
  have hs := anyTo_succ l i;rw [hany,Bool.false_or] at hs;cases hbe : begs l i with
  | false =>
   rw [hbe] at hb hs;repeat(first|apply Ya|apply Yb|apply Yc|((first|apply Yd|apply Ye|apply Yf|apply Yg|apply Yh);simp -implicitDefEqProofs(maxSteps:=9^7)(disch:=first|exact Yo rfl|omega|(simp only[go_sem]<;>omega)|fail)only[go_sem,h,Int.ofNat_lt,hlen,hb]<;>try with_reducible rfl)|apply Yi|apply Yj|apply Yk|apply Yl|apply Ym|apply Yn)
   apply block_norm;apply Ys
   ·simp -implicitDefEqProofs(maxSteps:=9^7)(disch:=first|exact Yo rfl|omega|(simp only[go_sem]<;>omega)|fail)only[go_sem,norm_eq,Ok.some]; with_reducible rfl
   exact ⟨h,by simp,hs⟩
  | true =>
   rw [hbe] at hb;repeat(first|apply Ya|apply Yb|apply Yc|((first|apply Yd|apply Ye|apply Yf|apply Yg|apply Yh);simp -implicitDefEqProofs(maxSteps:=9^7)(disch:=first|exact Yo rfl|omega|(simp only[go_sem]<;>omega)|fail)only[go_sem,h,Int.ofNat_lt,hlen,hb,show ¬ (i : Int) = l.length by omega]<;>try with_reducible rfl)|apply Yi|apply Yj|apply Yk|apply Yl|apply Ym|apply Yn)
   apply Wp.loopM (fun k fr => ∃ f : Nat,fr = ⟨[(1,.yieldT 200000),(2,.ptr 128 0 0),(4,.func 157 [.ptr 128 0 0]),(6,iv (f : Int))],[(128,.box [strA es]),(200000,.num 3500000),(3500000,.log none ((runsTo l (min f l.length)).map sfV))],[(200000,none)],10000000⟩ ∧ k = l.length - f ∧ f ≤ 2 * l.length ∧ (f < l.length → begs l f = true))
   ·simp -implicitDefEqProofs(maxSteps:=9^7)(disch:=first|exact Yo rfl|omega|(simp only[go_sem]<;>omega)|fail)only[go_sem,norm_eq,Ok.some]
    refine ⟨l.length - i,i,?_,rfl,by omega,fun _ => hbe⟩
    rw [show min i l.length = i by omega,runsTo_none hany]
    rfl
   rintro k fr ⟨f,rfl,hk,hf2,hfb⟩;by_cases hf : f < l.length
   ·have hL := lenT_is (hfb hf)
    have hpos := hL.pos;have hlt := hL.lt;have hbs := hL.begs;have hbe' := hL.end;have ha := hA f hf;have hr := runs_next hf (hfb hf);have ex : runAt l f = ⟨f,lenT l f,gb l f⟩ := rfl;rw [ex] at hr;generalize hn : lenT l f = n at *;rw [show min f l.length = f by omega]
    generalize hup : gb l f = up at *;have hup' : decide (((es.getD f 0).toNat : Int) = 120) = up := by rw [ha]; cases up <;> rfl
    repeat(first|apply Ya|apply Yb|apply Yc|((first|apply Yd|apply Ye|apply Yf|apply Yg|apply Yh);simp -implicitDefEqProofs(maxSteps:=9^7)(disch:=first|exact Yo rfl|omega|(simp only[go_sem]<;>omega)|fail)only[go_sem,hf,Int.ofNat_lt,hlen,hup',Int.toNat_natCast]<;>try with_reducible rfl)|apply Yi|apply Yj|apply Yk|apply Yl|apply Ym|apply Yn)
    apply Yt (n - 1) (fun k => ⟨[(1,.yieldT 200000),(2,.ptr 128 0 0),(4,.func 157 [.ptr 128 0 0]),(6,iv (f : Int)),(7,.ptr 448 0 0)],[(128,.box [strA es]),(448,.box [iv 0,iv (f : Int),iv ((k + 1 : Nat) : Int),.bool up]),(200000,.num 3500000),(3500000,.log none ((runsTo l f).map sfV))],[(200000,none)],10000000⟩) (fun _ => True)
    ·simp -implicitDefEqProofs(maxSteps:=9^7)(disch:=first|exact Yo rfl|omega|(simp only[go_sem]<;>omega)|fail)only[go_sem,norm_eq,Ok.some]
     rfl
    ·trivial
    intro j hj _;have hm := Nat.mod_lt (f + (j + 1)) h0;have hb2 := hB _ hm;rw [begs_mod] at hb2;have e : Int.tmod ((f : Int) + ((j + 1 : Nat) : Int)) (l.length : Int) = (((f + (j + 1)) % l.length : Nat) : Int) := by
     rw [show (f : Int) + ((j + 1 : Nat) : Int) = ((f + (j + 1) : Nat) : Int) by omega,Int.tmod_eq_emod_of_nonneg (Int.natCast_nonneg _)]; simp
    by_cases hjn : j < n - 1
    ·rw [hbs (j + 1) (by omega) (by omega)] at hb2
     generalize (f + (j + 1)) % l.length = m at *;repeat(first|apply Ya|apply Yb|apply Yc|((first|apply Yd|apply Ye|apply Yf|apply Yg|apply Yh);simp -implicitDefEqProofs(maxSteps:=9^7)(disch:=first|exact Yo rfl|omega|(simp only[go_sem]<;>omega)|fail)only[go_sem,hlen,e,hb2,show (l.length : Int) ≠ 0 by omega]<;>try with_reducible rfl)|apply Yi|apply Yj|apply Yk|apply Yl|apply Ym|apply Yn)
     apply block_norm;apply Ys
     ·simp -implicitDefEqProofs(maxSteps:=9^7)(disch:=first|exact Yo rfl|omega|(simp only[go_sem]<;>omega)|fail)only[go_sem,norm_eq,Ok.some]; with_reducible rfl
     exact ⟨hjn,by simp,trivial⟩
    ·obtain rfl : j = n - 1 := by omega
     rw [show n - 1 + 1 = n by omega] at *
     rw [hbe'] at hb2;generalize (f + n) % l.length = m at *;repeat(first|apply Ya|apply Yb|apply Yc|((first|apply Yd|apply Ye|apply Yf|apply Yg|apply Yh);simp -implicitDefEqProofs(maxSteps:=9^7)(disch:=first|exact Yo rfl|omega|(simp only[go_sem]<;>omega)|fail)only[go_sem,hlen,e,hb2,show (l.length : Int) ≠ 0 by omega]<;>try with_reducible rfl)|apply Yi|apply Yj|apply Yk|apply Yl|apply Ym|apply Yn)
     apply block_norm;apply Ys
     ·simp -implicitDefEqProofs(maxSteps:=9^7)(disch:=first|exact Yo rfl|omega|(simp only[go_sem]<;>omega)|fail)only[go_sem,norm_eq,Ok.some]; with_reducible rfl
     refine ⟨l.length - (f + n),by omega,f + n,?_,rfl,by omega,fun _ => hbe'⟩
     rw [hr];simp [sfV]
   ·rw [show min f l.length = l.length by omega]
    have hany' : anyTo l l.length = true := by
     unfold anyTo;rw [List.any_eq_true];exact ⟨i,List.mem_range.2 h,hbe⟩
    have el : lastT l = [] := by unfold lastT; rw [hany',if_pos rfl]
    rw [el,List.append_nil] at eT;rw [← eT];repeat(first|apply Ya|apply Yb|apply Yc|((first|apply Yd|apply Ye|apply Yf|apply Yg|apply Yh);simp -implicitDefEqProofs(maxSteps:=9^7)(disch:=first|exact Yo rfl|omega|(simp only[go_sem]<;>omega)|fail)only[go_sem,hf,Int.ofNat_lt,hlen]<;>try with_reducible rfl)|apply Yi|apply Yj|apply Yk|apply Yl|apply Ym|apply Yn)
 ·obtain rfl : i = l.length := by omega
  have el : lastT l = [⟨0,1000,gb l 0⟩] := by unfold lastT; rw [hany,if_neg (by simp)]
  have g0 := hA 0 h0;rw [runsTo_none hany,el] at eT;generalize gb l 0 = up at *;cases up;all_goals
   simp only [if_true,Bool.false_eq_true,if_false] at g0;repeat(first|apply Ya|apply Yb|apply Yc|((first|apply Yd|apply Ye|apply Yf|apply Yg|apply Yh);simp -implicitDefEqProofs(maxSteps:=9^7)(disch:=first|exact Yo rfl|omega|(simp only[go_sem]<;>omega)|fail)only[go_sem,Int.lt_irrefl,hlen,g0,h0]<;>try with_reducible rfl)|apply Yi|apply Yj|apply Yk|apply Yl|apply Ym|apply Yn)
   rw [eT];rfl
theorem runsF_skip {l : List Bool} {f n : Nat} (hb : ∀ k,1 ≤ k → k < n → begs l (f + k) = false) : ∀ j,j < n → f + 1 + j ≤ l.length → runsFrom l (f + 1) = runsFrom l (f + 1 + j)
 | 0,_,_ => rfl
 | j + 1,hj,hl => by
  rw [runsF_skip hb j (by omega) (by omega),runsFrom_step (by omega),show f + 1 + j = f + (j + 1) by omega,hb (j + 1) (by omega) hj,if_neg (by simp),List.nil_append]
  congr 1
  omega
theorem runsF_next {l : List Bool} {f : Nat} (hf : f < l.length) (h : begs l f = true) : runsFrom l f = runAt l f :: runsFrom l (min (f + lenT l f) l.length) := by
 have hL := lenT_is h;have hp := hL.pos;have h1 := runsF_skip hL.begs (min (f + lenT l f) l.length - (f + 1)) (by omega) (by omega)
 rw [show f + 1 + (min (f + lenT l f) l.length - (f + 1)) = min (f + lenT l f) l.length by omega] at h1
 rw [runsFrom_step hf,h,if_pos rfl,h1]; rfl
theorem runsF_zero {l : List Bool} : ∀ i,i ≤ l.length → anyTo l i = false → runsFrom l 0 = runsFrom l i
 | 0,_,_ => rfl
 | i + 1,hi,ha => by
  rw [anyTo_succ,Bool.or_eq_false_iff] at ha;rw [runsF_zero i (by omega) ha.1,runsFrom_step (by omega),ha.2,if_neg (by simp),List.nil_append]
theorem runsT_from {l : List Bool} {i : Nat} (h : i < l.length) (ha : anyTo l i = false) (hb : begs l i = true) : runsT l = runsFrom l i := by
 have hany' : anyTo l l.length = true := by
  unfold anyTo;rw [List.any_eq_true];exact ⟨i,List.mem_range.2 h,hb⟩
 have el : lastT l = [] := by unfold lastT; rw [hany',if_pos rfl]
 unfold runsT;rw [el,List.append_nil,← runsFrom_zero,runsF_zero i (by omega) ha]
theorem sfloats_check (l : List Bool) (h0 : 0 < l.length) (hl : l.length ≤ 1000) : lim F 108 [strA (sOf l),.ylog (some 0) ((runsT l).map sfV)] = some (.tuple [],[.ylog (some 0) []]) := by
 have hlen := sOf_len l;have hB := fun (i : Nat) (hi : i < l.length) => sbegins_ok l i hi hl
 have hA := fun (i : Nat) (hi : i < l.length) => sOf_at hi
 have hz : anyTo l 0 = false := rfl;have eT : runsT l = runsTo l l.length ++ lastT l := rfl;generalize sOf l = es at *;refine Yr (fn:=a108) (k:=2) (res:=[]) rfl rfl rfl (by simp -implicitDefEqProofs(maxSteps:=9^7)(disch:=first|exact Yo rfl|omega|(simp only[go_sem]<;>omega)|fail)only[go_sem]) ?_
 try delta mvA
 try delta opA
 try delta tA
 simp -implicitDefEqProofs(maxSteps:=9^7)(disch:=first|exact Yo rfl|omega|(simp only[go_sem]<;>omega)|fail)only[go_sem]
 repeat(first|apply Ya|apply Yb|apply Yc|((first|apply Yd|apply Ye|apply Yf|apply Yg|apply Yh);simp -implicitDefEqProofs(maxSteps:=9^7)(disch:=first|exact Yo rfl|omega|(simp only[go_sem]<;>omega)|fail)only[go_sem,hlen]<;>try with_reducible rfl)|apply Yi|apply Yj|apply Yk|apply Yl|apply Ym|apply Yn)
 apply Yt l.length (fun i => ⟨[(1,.yieldT 200000),(2,.ptr 128 0 0),(4,.func 157 [.ptr 128 0 0]),(5,iv (i : Int))],[(128,.box [strA es]),(200000,.num 3500000),(3500000,.log (some 0) ((runsT l).map sfV))],[(200000,none)],10000000⟩) (fun i => anyTo l i = false)
 ·simp -implicitDefEqProofs(maxSteps:=9^7)(disch:=first|exact Yo rfl|omega|(simp only[go_sem]<;>omega)|fail)only[go_sem,norm_eq,Ok.some]
  rfl
 ·exact hz
 intro i hi hany;by_cases h : i < l.length
 ·have hb := hB i h
  have hs := anyTo_succ l i;rw [hany,Bool.false_or] at hs;cases hbe : begs l i with
  | false =>
   rw [hbe] at hb hs;repeat(first|apply Ya|apply Yb|apply Yc|((first|apply Yd|apply Ye|apply Yf|apply Yg|apply Yh);simp -implicitDefEqProofs(maxSteps:=9^7)(disch:=first|exact Yo rfl|omega|(simp only[go_sem]<;>omega)|fail)only[go_sem,h,Int.ofNat_lt,hlen,hb]<;>try with_reducible rfl)|apply Yi|apply Yj|apply Yk|apply Yl|apply Ym|apply Yn)
   apply block_norm;apply Ys
   ·simp -implicitDefEqProofs(maxSteps:=9^7)(disch:=first|exact Yo rfl|omega|(simp only[go_sem]<;>omega)|fail)only[go_sem,norm_eq,Ok.some]; with_reducible rfl
   exact ⟨h,by simp,hs⟩
  | true =>
   rw [hbe] at hb;repeat(first|apply Ya|apply Yb|apply Yc|((first|apply Yd|apply Ye|apply Yf|apply Yg|apply Yh);simp -implicitDefEqProofs(maxSteps:=9^7)(disch:=first|exact Yo rfl|omega|(simp only[go_sem]<;>omega)|fail)only[go_sem,h,Int.ofNat_lt,hlen,hb,show ¬ (i : Int) = l.length by omega]<;>try with_reducible rfl)|apply Yi|apply Yj|apply Yk|apply Yl|apply Ym|apply Yn)
   apply Wp.loopM (fun k fr => ∃ f : Nat,fr = ⟨[(1,.yieldT 200000),(2,.ptr 128 0 0),(4,.func 157 [.ptr 128 0 0]),(6,iv (f : Int))],[(128,.box [strA es]),(200000,.num 3500000),(3500000,.log (some 0) ((runsFrom l (min f l.length)).map sfV))],[(200000,none)],10000000⟩ ∧ k = l.length - f ∧ f ≤ 2 * l.length ∧ (f < l.length → begs l f = true))
   ·simp -implicitDefEqProofs(maxSteps:=9^7)(disch:=first|exact Yo rfl|omega|(simp only[go_sem]<;>omega)|fail)only[go_sem,norm_eq,Ok.some]
    refine ⟨l.length - i,i,?_,rfl,by omega,fun _ => hbe⟩
    rw [show min i l.length = i by omega,← runsT_from h hany hbe]
   rintro k fr ⟨f,rfl,hk,hf2,hfb⟩;by_cases hf : f < l.length
   ·have hL := lenT_is (hfb hf)
    have hpos := hL.pos;have hlt := hL.lt;have hbs := hL.begs;have hbe' := hL.end;have ha := hA f hf;have hr := runsF_next hf (hfb hf);have ex : runAt l f = ⟨f,lenT l f,gb l f⟩ := rfl;rw [ex] at hr;generalize hn : lenT l f = n at *;rw [show min f l.length = f by omega]
    generalize hup : gb l f = up at *;have hup' : decide (((es.getD f 0).toNat : Int) = 120) = up := by rw [ha]; cases up <;> rfl
    repeat(first|apply Ya|apply Yb|apply Yc|((first|apply Yd|apply Ye|apply Yf|apply Yg|apply Yh);simp -implicitDefEqProofs(maxSteps:=9^7)(disch:=first|exact Yo rfl|omega|(simp only[go_sem]<;>omega)|fail)only[go_sem,hf,Int.ofNat_lt,hlen,hup',Int.toNat_natCast]<;>try with_reducible rfl)|apply Yi|apply Yj|apply Yk|apply Yl|apply Ym|apply Yn)
    apply Yt (n - 1) (fun k => ⟨[(1,.yieldT 200000),(2,.ptr 128 0 0),(4,.func 157 [.ptr 128 0 0]),(6,iv (f : Int)),(7,.ptr 448 0 0)],[(128,.box [strA es]),(448,.box [iv 0,iv (f : Int),iv ((k + 1 : Nat) : Int),.bool up]),(200000,.num 3500000),(3500000,.log (some 0) ((runsFrom l f).map sfV))],[(200000,none)],10000000⟩) (fun _ => True)
    ·simp -implicitDefEqProofs(maxSteps:=9^7)(disch:=first|exact Yo rfl|omega|(simp only[go_sem]<;>omega)|fail)only[go_sem,norm_eq,Ok.some]
     rfl
    ·trivial
    intro j hj _;have hm := Nat.mod_lt (f + (j + 1)) h0;have hb2 := hB _ hm;rw [begs_mod] at hb2;have e : Int.tmod ((f : Int) + ((j + 1 : Nat) : Int)) (l.length : Int) = (((f + (j + 1)) % l.length : Nat) : Int) := by
     rw [show (f : Int) + ((j + 1 : Nat) : Int) = ((f + (j + 1) : Nat) : Int) by omega,Int.tmod_eq_emod_of_nonneg (Int.natCast_nonneg _)]; simp
    by_cases hjn : j < n - 1
    ·rw [hbs (j + 1) (by omega) (by omega)] at hb2
     generalize (f + (j + 1)) % l.length = m at *;repeat(first|apply Ya|apply Yb|apply Yc|((first|apply Yd|apply Ye|apply Yf|apply Yg|apply Yh);simp -implicitDefEqProofs(maxSteps:=9^7)(disch:=first|exact Yo rfl|omega|(simp only[go_sem]<;>omega)|fail)only[go_sem,hlen,e,hb2,show (l.length : Int) ≠ 0 by omega]<;>try with_reducible rfl)|apply Yi|apply Yj|apply Yk|apply Yl|apply Ym|apply Yn)
     apply block_norm;apply Ys
     ·simp -implicitDefEqProofs(maxSteps:=9^7)(disch:=first|exact Yo rfl|omega|(simp only[go_sem]<;>omega)|fail)only[go_sem,norm_eq,Ok.some]; with_reducible rfl
     exact ⟨hjn,by simp,trivial⟩
    ·obtain rfl : j = n - 1 := by omega
     rw [show n - 1 + 1 = n by omega] at *
     rw [hbe'] at hb2;generalize (f + n) % l.length = m at *;have hq : AV.beqL [.agg [iv 0,iv (f : Int),iv (n : Int),.bool up]] [.agg [iv 0,iv (f : Int),iv (n : Int),.bool up]] = true := by simp [AV.beqL,AV.beq]
     rw [hr,List.map_cons];unfold sfV;dsimp only;repeat(first|apply Ya|apply Yb|apply Yc|((first|apply Yd|apply Ye|apply Yf|apply Yg|apply Yh);simp -implicitDefEqProofs(maxSteps:=9^7)(disch:=first|exact Yo rfl|omega|(simp only[go_sem]<;>omega)|fail)only[go_sem,hlen,e,hb2,show (l.length : Int) ≠ 0 by omega,hq]<;>try with_reducible rfl)|apply Yi|apply Yj|apply Yk|apply Yl|apply Ym|apply Yn)
     apply block_norm;apply Ys
     ·simp -implicitDefEqProofs(maxSteps:=9^7)(disch:=first|exact Yo rfl|omega|(simp only[go_sem]<;>omega)|fail)only[go_sem,norm_eq,Ok.some]; with_reducible rfl
     refine ⟨l.length - (f + n),by omega,f + n,?_,rfl,by omega,fun _ => hbe'⟩
     simp
   ·rw [show min f l.length = l.length by omega]
    rw [runsFrom_end];repeat(first|apply Ya|apply Yb|apply Yc|((first|apply Yd|apply Ye|apply Yf|apply Yg|apply Yh);simp -implicitDefEqProofs(maxSteps:=9^7)(disch:=first|exact Yo rfl|omega|(simp only[go_sem]<;>omega)|fail)only[go_sem,hf,Int.ofNat_lt,hlen]<;>try with_reducible rfl)|apply Yi|apply Yj|apply Yk|apply Yl|apply Ym|apply Yn)
 ·obtain rfl : i = l.length := by omega
  have el : lastT l = [⟨0,1000,gb l 0⟩] := by unfold lastT; rw [hany,if_neg (by simp)]
  have g0 := hA 0 h0;rw [runsTo_none hany,el] at eT;rw [eT];generalize gb l 0 = up at *;have hq : AV.beqL [.agg [iv 0,iv 0,iv 1000,.bool up]] [.agg [iv 0,iv ((0 : Nat) : Int),iv ((1000 : Nat) : Int),.bool up]] = true := by simp [AV.beqL,AV.beq]
  unfold sfV;simp only [List.nil_append,List.map_cons,List.map_nil];cases up;all_goals
   simp only [if_true,Bool.false_eq_true,if_false] at g0;repeat(first|apply Ya|apply Yb|apply Yc|((first|apply Yd|apply Ye|apply Yf|apply Yg|apply Yh);simp -implicitDefEqProofs(maxSteps:=9^7)(disch:=first|exact Yo rfl|omega|(simp only[go_sem]<;>omega)|fail)only[go_sem,Int.lt_irrefl,hlen,g0,h0,hq]<;>try with_reducible rfl)|apply Yi|apply Yj|apply Yk|apply Yl|apply Ym|apply Yn)
end Go.Abs
