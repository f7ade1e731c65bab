/-
 Chapter 3: the floats of a cloth. No condition beyond those that each theorem names.
-/
import Derived.Test.YtgpbjihpkoiaiaaMF
import Derived.Test.YtgpbjihpkoiaiaaTM
set_option linter.all false
namespace Go.Abs
set_option maxRecDepth 10000
set_option maxHeartbeats 4000000
def keepF (b : Int) (l : List FloatT) : List AV := (l.filter fun f => decide (b < f.len)).map FloatT.av
theorem keepF_app (b : Int) (l l' : List FloatT) : keepF b (l ++ l') = keepF b l ++ keepF b l' := by
 unfold keepF; rw [List.filter_append,List.map_append]
theorem keepF_one (b : Int) (f : FloatT) : keepF b [f] = if b < f.len then [f.av] else [] := by
 unfold keepF;by_cases h : b < f.len <;> simp [h]
theorem keepF_plain (b : Int) (l : List FloatT) : (keepF b l).all AV.plain = true := by
 rw [List.all_eq_true];intro x hx;obtain ⟨y,-,rfl⟩ := List.mem_map.1 hx;rfl
theorem run_inS {l : List Bool} (h0 : 0 < l.length) (hl : l.length ≤ 1000) {x : RunT} (hx : x ∈ runsT l) : x.first < l.length ∧ 1 ≤ x.len ∧ x.len ≤ 1000 := by
 unfold runsT at hx;rcases List.mem_append.1 hx with h | h
 ·unfold runsTo at h
  obtain ⟨i,hi,rfl⟩ := List.mem_map.1 h;obtain ⟨h1,h2⟩ := List.mem_filter.1 hi;have := lenT_is h2;have h3 := this.pos;have h4 := this.lt;unfold runAt;exact ⟨List.mem_range.1 h1,h3,by dsimp only; omega⟩
 ·unfold lastT at h
  split at h
  ·cases h
  ·rw [List.mem_singleton.1 h]; exact ⟨h0,by dsimp only; omega,by dsimp only; omega⟩
theorem runs_lenS {l : List Bool} (hl : l.length ≤ 1000) : (runsT l).length ≤ 1001 := by
 unfold runsT runsTo lastT;have := List.length_filter_le (begs l) (List.range l.length);rw [List.length_range] at this;rw [List.length_append,List.length_map];split <;> simp <;> omega
theorem flTo_len (R : Nat → List Bool) (h : ∀ p,(R p).length ≤ 1000) : ∀ i,(flTo R floatW i).length ≤ 1001 * i
 | 0 => by simp [flTo]
 | i + 1 => by
  have h1 := flTo_len R h i;have h2 := runs_lenS (h i);rw [flTo_succ,List.length_append,List.length_map];omega
theorem keepF_len (b : Int) (l : List FloatT) : (keepF b l).length ≤ l.length := by
 unfold keepF;rw [List.length_map];exact List.length_filter_le _ _
def clothR (rows ws : List Nat) (p : Nat) : List Bool := ringS (rows.getD p 0) ws
theorem twithin_b (b : Int) (hb : 0 ≤ b ∧ b ≤ 1000) : lim F 78 [iv 0,iv 1000,.list 1 [iv b]] = some (.bool true,[]) := by
 have h := twithin_one 0 1000 b
 rwa [decide_eq_true hb] at h
theorem tFloats_ok (h : HarN) (ho : h.Ok) (d : DesN) (hd : d.Ok) (he : d.hk = h.hk) (b : Int) (hb : 0 ≤ b ∧ b ≤ 1000) : lim F 52 [h.av,d.av,iv b] = some (.tuple [.own 4 (keepF b (flTo (clothR d.rows h.ws) floatW d.rows.length)),iv 0],[]) := by
 have hW := tWeave_ok h ho d hd he;have hwb := twithin_b b hb;have w1 := ho.w1;have w96 := ho.w96;have h60 := hd.r60;have hcl : (clothV d.rows h.ws).length = d.rows.length := by simp
 have hcp := cloth_bad (ws := h.ws) hd.r1;have hct : (clothV d.rows h.ws).take d.rows.length = clothV d.rows h.ws := List.take_of_length_le (by simp)
 have hcg : ∀ p,p < d.rows.length → (clothV d.rows h.ws)[p]? = some (strA (sOf (clothR d.rows h.ws p))) := fun p hp => by rw [cloth_at hp,pick_ring]; rfl
 have hgu := fun p => sfloats_guess (clothR d.rows h.ws p) (by simp [clothR]; omega) (by simp [clothR]; omega)
 have hck := fun p => sfloats_check (clothR d.rows h.ws p) (by simp [clothR]; omega) (by simp [clothR]; omega)
 have hRl : ∀ p,(clothR d.rows h.ws p).length = h.ws.length := fun p => by simp [clothR]
 unfold HarN.av DesN.av at *;change lim F _ [_,.agg [_,.list 1 (natsV d.rows)],_] = _;change lim F _ [_,.agg [_,.list 1 (natsV d.rows)]] = _ at hW;generalize clothV d.rows h.ws = CL at *;generalize hR : clothR d.rows h.ws = R at *;generalize natsV d.rows = rv at *;generalize natsV h.ws = wv at *;generalize hn : d.rows.length = n at *;refine Yr (fn:=a52) (k:=3) (res:=[.cell 6 1 false,.tmp 7]) rfl rfl rfl (by simp -implicitDefEqProofs(maxSteps:=9^7)(disch:=first|exact Yo rfl|omega|(simp only[go_sem]<;>omega)|fail)only[go_sem]) ?_
 try delta mvA
 try delta opA
 try delta tA
 simp -implicitDefEqProofs(maxSteps:=9^7)(disch:=first|exact Yo rfl|omega|(simp only[go_sem]<;>omega)|fail)only[go_sem]
 repeat(first|apply Ya|apply Yb|apply Yc|((first|apply Yd|apply Ye|apply Yf|apply Yg|apply Yh);simp -implicitDefEqProofs(maxSteps:=9^7)(disch:=first|exact Yo rfl|omega|(simp only[go_sem]<;>omega)|fail)only[go_sem,hW,hwb,hcl,hcp,hct]<;>try with_reducible rfl)|apply Yi|apply Yj|apply Yk|apply Yl|apply Ym|apply Yn)
 have hst := flTo_succ R floatW;have hRk : ∀ p,(R p).length ≤ 1000 := fun p => by rw [hRl]; omega
 apply Yt n (fun i => ⟨[(5,.ptr 320 0 0),(6,.ptr 384 0 0),(27,.slice 1728 0 n),(28,iv (n : Int)),(29,iv (i : Int))],[(320,.box [iv b]),(384,.box [.slice 306144 0 (keepF b (flTo R floatW i)).length]),(1728,.arr 1 CL),(306144,.arr 4 (keepF b (flTo R floatW i)))],[],10000000⟩) (fun _ => True)
 ·simp -implicitDefEqProofs(maxSteps:=9^7)(disch:=first|exact Yo rfl|omega|(simp only[go_sem]<;>omega)|fail)only[go_sem,norm_eq,Ok.some]
  rfl
 ·trivial
 intro i hi _;by_cases h' : i < n
 ·have a1 := hcg i h'
  have g1 := hgu i;have g2 := hck i;have hsi := hst i;clear hcg hgu hck hst;have hE0 := flTo_len R hRk i;have hVl := runs_lenS (l := R i) (hRk i);generalize hs : sOf (R i) = sb at *;generalize hV : runsT (R i) = V at *;generalize flTo R floatW i = E0 at *;rw [hsi];repeat(first|apply Ya|apply Yb|apply Yc|((first|apply Yd|apply Ye|apply Yf|apply Yg|apply Yh);simp -implicitDefEqProofs(maxSteps:=9^7)(disch:=first|exact Yo rfl|omega|(simp only[go_sem]<;>omega)|fail)only[go_sem,h',Int.ofNat_lt,a1,hcl,Int.toNat_natCast]<;>try with_reducible rfl)|apply Yi|apply Yj|apply Yk|apply Yl|apply Ym|apply Yn)
  refine Wp.rangeFm (fun j fr => fr = ⟨[(5,.ptr 320 0 0),(6,.ptr 384 0 0),(9,.ptr 576 0 0),(27,.slice 1728 0 n),(28,iv (n : Int)),(29,iv (i : Int))],[(320,.box [iv b]),(384,.box [.slice 306144 0 (keepF b (E0 ++ (V.take j).map (floatW i))).length]),(576,.box [iv (i : Int)]),(1728,.arr 1 CL),(306144,.arr 4 (keepF b (E0 ++ (V.take j).map (floatW i))))],[],10000000⟩) rfl rfl g1 g2 ?_ ?_ ?_
  ·simp -implicitDefEqProofs(maxSteps:=9^7)(disch:=first|exact Yo rfl|omega|(simp only[go_sem]<;>omega)|fail)only[go_sem,norm_eq,Ok.some]
  ·rintro j x fr hx rfl
   have hlt : j < V.length := by
    rcases Nat.lt_or_ge j V.length with h | h
    ·exact h
    ·rw [List.getElem?_eq_none (by simpa using h)] at hx; cases hx
   have ex : x = sfV V[j] := by
    rw [List.getElem?_map,List.getElem?_eq_getElem hlt] at hx;cases hx; rfl
   subst ex;refine ⟨_,rfl,?_⟩;have e1 : E0 ++ (V.take (j + 1)).map (floatW i) = (E0 ++ (V.take j).map (floatW i)) ++ [floatW i V[j]] := by
    rw [List.take_succ_eq_append_getElem hlt,List.map_append,← List.append_assoc]; rfl
   have e2 := keepF_app b (E0 ++ (V.take j).map (floatW i)) [floatW i V[j]];have e3 : keepF b [floatW i V[j]] = if b < (V[j].len : Int) then [.agg [iv (i : Int),iv (V[j].first : Int),iv (V[j].len : Int),.bool V[j].up]] else [] := keepF_one b (floatW i V[j])
   rw [← e1,e3] at e2;clear e1 e3;have hEl : (keepF b (E0 ++ (V.take j).map (floatW i))).length ≤ 100000 := by
    have h1 := keepF_len b (E0 ++ (V.take j).map (floatW i));rw [List.length_append,List.length_map,List.length_take] at h1;omega
   have hfr := run_inS (l := R i) (by rw [hRl]; omega) (by rw [hRl]; omega) (x := V[j]) (by rw [hV]; exact List.getElem_mem hlt)
   generalize V[j] = y at *;generalize keepF b (E0 ++ (V.take j).map (floatW i)) = E1 at *;have t1 : E1.take E1.length = E1 := List.take_of_length_le (by omega)
   by_cases hbf : b < (y.len : Int)
   ·rw [if_pos hbf] at e2
    repeat(first|apply Ya|apply Yb|apply Yc|((first|apply Yd|apply Ye|apply Yf|apply Yg|apply Yh);simp -implicitDefEqProofs(maxSteps:=9^7)(disch:=first|exact Yo rfl|omega|(simp only[go_sem]<;>omega)|fail)only[go_sem,hbf,t1]<;>try with_reducible rfl)|apply Yi|apply Yj|apply Yk|apply Yl|apply Ym|apply Yn)
    apply block_norm;apply Ys
    ·simp -implicitDefEqProofs(maxSteps:=9^7)(disch:=first|exact Yo rfl|omega|(simp only[go_sem]<;>omega)|fail)only[go_sem,norm_eq,Ok.some]; with_reducible rfl
    rw [e2];simp
   ·rw [if_neg hbf,List.append_nil] at e2
    repeat(first|apply Ya|apply Yb|apply Yc|((first|apply Yd|apply Ye|apply Yf|apply Yg|apply Yh);simp -implicitDefEqProofs(maxSteps:=9^7)(disch:=first|exact Yo rfl|omega|(simp only[go_sem]<;>omega)|fail)only[go_sem,hbf]<;>try with_reducible rfl)|apply Yi|apply Yj|apply Yk|apply Yl|apply Ym|apply Yn)
    apply block_norm;apply Ys
    ·simp -implicitDefEqProofs(maxSteps:=9^7)(disch:=first|exact Yo rfl|omega|(simp only[go_sem]<;>omega)|fail)only[go_sem,norm_eq,Ok.some]; with_reducible rfl
    rw [e2]
  ·rintro fr rfl
   rw [show (V.map sfV).length = V.length by simp,List.take_length]
   apply block_norm;apply block_norm;repeat(first|apply Ya|apply Yb|apply Yc|((first|apply Yd|apply Ye|apply Yf|apply Yg|apply Yh);simp -implicitDefEqProofs(maxSteps:=9^7)(disch:=first|exact Yo rfl|omega|(simp only[go_sem]<;>omega)|fail)only[go_sem]<;>try with_reducible rfl)|apply Yi|apply Yj|apply Yk|apply Yl|apply Ym|apply Yn)
   apply Ys
   ·simp -implicitDefEqProofs(maxSteps:=9^7)(disch:=first|exact Yo rfl|omega|(simp only[go_sem]<;>omega)|fail)only[go_sem,norm_eq,Ok.some]; with_reducible rfl
   exact ⟨h',by simp,trivial⟩
 ·obtain rfl : i = n := by omega
  have hpl := keepF_plain b (flTo R floatW i);generalize keepF b (flTo R floatW i) = E at *;have t1 : E.take E.length = E := List.take_of_length_le (by omega)
  repeat(first|apply Ya|apply Yb|apply Yc|((first|apply Yd|apply Ye|apply Yf|apply Yg|apply Yh);simp -implicitDefEqProofs(maxSteps:=9^7)(disch:=first|exact Yo rfl|omega|(simp only[go_sem]<;>omega)|fail)only[go_sem,h',Int.ofNat_lt,hcl,t1,hpl]<;>try with_reducible rfl)|apply Yi|apply Yj|apply Yk|apply Yl|apply Ym|apply Yn)
end Go.Abs
