/-
 A length with a wrong warp: plain Lean, and two lengths cut out of one piece. No condition beyond those that each theorem names.
-/
import Derived.Test.YtgpbjihpkoiaiaaER
import Derived.Test.YtgpbjihpkoiaiaaMQ
import Derived.Test.YtgpbjihpkoiaiaaZS27
set_option linter.all false
namespace Go.Abs
set_option maxRecDepth 10000
theorem eye_same (r : Nat) {ws : List Nat} {af : List Int} (hd : DrawOk ws.length af) (h : ∀ w,w < ws.length → hookN ws (drAt af w).toNat = hookN ws w ∧ 0 ≤ drAt af w) : eyeB r ws af = pickB r ws := by
 apply List.ext_getElem?;intro j;by_cases hj : j < ws.length
 ·have hja : j < af.length := by rw [hd.len]; exact hj
  have h1 := h j hj;have h2 := hd.at hj;unfold eyeB;rw [List.getElem?_map,dr_elem hja];simp only [Option.map_some];rw [if_neg (by omega)]
  unfold pickB;have hx : (drAt af j).toNat < ws.length := by omega
  have e1 := h1.1;unfold hookN at e1;rw [List.getD_eq_getElem?_getD,List.getElem?_eq_getElem hx,List.getD_eq_getElem?_getD,List.getElem?_eq_getElem hj] at e1;simp only [Option.getD_some] at e1;rw [List.getElem?_map,List.getElem?_eq_getElem hj,List.getD_eq_getElem?_getD,List.getElem?_map,List.getElem?_eq_getElem hx];simp only [Option.map_some,Option.getD_some,e1]
 ·rw [List.getElem?_eq_none (by simp [eyeB,hd.len]; omega),List.getElem?_eq_none (by simp; omega)]
theorem ecloth_same {rows ws : List Nat} {af : List Int} (hd : DrawOk ws.length af) (h : ∀ w,w < ws.length → hookN ws (drAt af w).toNat = hookN ws w ∧ 0 ≤ drAt af w) : eclothV rows ws af = clothV rows ws := by
 unfold eclothV clothV;apply List.map_congr_left;intro r _;rw [eye_same r hd h]
theorem id_same (ws : List Nat) : ∀ w,w < ws.length → hookN ws (drAt (idN ws.length) w).toNat = hookN ws w ∧ 0 ≤ drAt (idN ws.length) w := fun w hw => by
 have : drAt (idN ws.length) w = (w : Int) := by
  unfold drAt idN;rw [List.getD_eq_getElem?_getD,List.getElem?_map,List.getElem?_range hw]; rfl
 rw [this,Int.toNat_natCast];exact ⟨rfl,by omega⟩
theorem eye_right (r : Nat) {ws : List Nat} {dr : List Int} (hd : DrawOk ws.length dr) {k : Nat} (hk : k < ws.length) (hr : rightW ws dr k = true) : (eyeB r ws dr).getD k 0 = (pickB r ws).getD k 0 := by
 obtain ⟨h1,h2⟩ := right_hook hr;have h3 := hd.at hk;unfold eyeB;rw [List.getD_eq_getElem?_getD,List.getElem?_map,dr_elem (by rw [hd.len]; exact hk)]
 simp only [Option.map_some,Option.getD_some];rw [if_neg h1];unfold pickB hookN at *;have hx : (drAt dr k).toNat < ws.length := by omega
 rw [List.getD_eq_getElem?_getD,List.getElem?_eq_getElem hx,List.getD_eq_getElem?_getD,List.getElem?_eq_getElem hk] at h2;simp only [Option.getD_some] at h2;rw [List.getD_eq_getElem?_getD,List.getElem?_map,List.getElem?_eq_getElem hx,List.getD_eq_getElem?_getD,List.getElem?_map,List.getElem?_eq_getElem hk];simp only [Option.map_some,Option.getD_some,h2]
theorem mem_wrong {ws : List Nat} {dr : List Int} {n k : Nat} : k ∈ wrongN ws dr n ↔ k < n ∧ rightW ws dr k = false := by
 unfold wrongN;rw [List.mem_filter,List.mem_range];simp
theorem ecloth_at {rows ws : List Nat} {dr : List Int} {i : Nat} (h : i < rows.length) : (eclothV rows ws dr)[i]? = some (strA (eyeB (rows.getD i 0) ws dr)) := by
 unfold eclothV;rw [List.getElem?_map,List.getElem?_eq_getElem h,List.getD_eq_getElem?_getD,List.getElem?_eq_getElem h]; rfl
theorem ecloth_bad {rows ws : List Nat} {dr : List Int} (h : 1 ≤ rows.length) : (eclothV rows ws dr).all AV.plain = false := by
 rw [List.all_eq_false];exact ⟨_,List.mem_of_getElem? (ecloth_at (i := 0) (by omega)),by simp [AV.plain,AV.plain1]⟩
theorem kv_take {L : List Nat} {kv : List (Int × AV)} {i : Nat} (h : KvIs kv (L.take i)) (hi : i < L.length) : KvIs (kvSet ((L.getD i 0 : Nat) : Int) (.bool true) kv) (L.take (i + 1)) := fun e => by
 have h1 := h.add (L.getD i 0) e;rw [h1];have e1 : L.take (i + 1) = L.take i ++ [L.getD i 0] := by
  rw [List.take_succ_eq_append_getElem hi,List.getD_eq_getElem?_getD,List.getElem?_eq_getElem hi]; rfl
 rw [e1];have : (e ∈ L.getD i 0 :: L.take i) ↔ (e ∈ L.take i ++ [L.getD i 0]) := by
  rw [List.mem_cons,List.mem_append,List.mem_singleton];exact ⟨fun h => h.symm,fun h => h.symm⟩
 by_cases c : e ∈ L.getD i 0 :: L.take i
 ·rw [if_pos c,if_pos (this.1 c)]
 ·rw [if_neg c,if_neg (fun q => c (this.2 q))]
open Seam in
theorem sums_zero (m : Nat) : sumsL (List.replicate m (dif 500 500 500 500)) = List.replicate (m + 1) ⟨0,0⟩ := by
 unfold sumsL;apply List.ext_getElem
 ·simp
 ·intro i h1 h2
  rw [List.getElem_map,List.getElem_range,List.getElem_replicate,pre_repQ _ _ _ (by simp at h1; omega)]
  simp [dif]
open Seam in
theorem cut2_ok (r b : Nat) (hr : 1 ≤ r ∧ r ≤ 20) (hb : b < r) :
  ∃ (s0 s1 : Nat) (need : Int),lim F 40 [iv (r : Int),.list 1 [],.list 2 [.agg [iv (b : Int),iv (r : Int)],.agg [iv (b : Int),iv (r : Int)]]] = some (.tuple [.own 1 [iv (s0 : Int),iv (s1 : Int)],iv need,iv 0],[]) ∧ s0 % r = b ∧ s1 % r = b ∧ s0 < 1000000 ∧ s1 < 1000000 := by
 have hv : CutsOk (r : Int) [] [⟨(b : Int),(r : Int)⟩,⟨(b : Int),(r : Int)⟩] := by
  refine ⟨by omega,by simp,by simp,fun y hy => (by cases hy),fun c hc => ?_⟩
  simp only [List.mem_cons,List.not_mem_nil,or_false,or_self] at hc;subst hc;simp only;omega
 have he : cutsE (r : Int) [] [⟨(b : Int),(r : Int)⟩,⟨(b : Int),(r : Int)⟩] = 0 := by
  have := hv.lb; have := hv.ll
  unfold cutsE;rw [if_neg (by simp [hv.rr]),if_neg (by omega),if_neg,if_neg,if_neg]
  ·rintro ⟨i,hi,hq⟩
   simp at hi
  ·rw [Bool.not_eq_true,List.any_eq_false]
   intro c hc;have := hv.cc c hc;simp only [decide_eq_true_eq,CutBad];omega
  ·rw [Bool.not_eq_false,List.all_eq_true]
   intro y hy;cases hy
 obtain ⟨q,h1,st,need,rfl,hbest,hf⟩ := Cut_ok _ _ _ he;have hnb := (best_bound hv (by omega) hbest).2
 have hl : st.length = 2 := by rw [hf.len]; simp
 match st,hl with
 | [x,y],_ =>
  have g0 := hf.each 0 (by simp)
  have g1 := hf.each 1 (by simp)
  have p0 := g0.pos;have p1 := g1.pos;have r0 := g0.rem;have r1 := g1.rem;have f0 := g0.fin;have f1 := g1.fin;simp only [stAt,cutAt,List.getElem?_cons_zero,List.getElem?_cons_succ,Option.getD_some] at p0 p1 r0 r1 f0 f1;refine ⟨x.toNat,y.toNat,need,?_,?_,?_,?_,?_⟩
  ·rw [Int.toNat_of_nonneg p0,Int.toNat_of_nonneg p1]
   exact h1
  ·have e1 : ((x.toNat % r : Nat) : Int) = (b : Int) := by rw [Int.natCast_emod,Int.toNat_of_nonneg p0]; exact r0
   omega
  ·have e1 : ((y.toNat % r : Nat) : Int) = (b : Int) := by rw [Int.natCast_emod,Int.toNat_of_nonneg p1]; exact r1
   omega
  ·omega
  ·omega
end Go.Abs
