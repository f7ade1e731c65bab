/-
 Both edges: plain Lean. No condition beyond those that each theorem names.
-/
import Derived.Test.YtgpbjihpkoiaiaaMG
import Derived.Test.YtgpbjihpkoiaiaaPM
import Derived.Test.YtgpbjihpkoiaiaaMR
import Derived.Test.YtgpbjihpkoiaiaaV4
set_option linter.all false
namespace Go.Abs
set_option maxRecDepth 10000
theorem refH_pos {hk : Nat} (h : 1 ≤ hk) : 1 ≤ refH hk := by unfold refH; omega
@[simp] theorem pntW_len (hk t : Nat) : (pntW hk t).length = t * refH hk := by simp [pntW]
theorem pntW_at {hk t i : Nat} (h : i < t * refH hk) : (pntW hk t)[i]? = some (min (i % refH hk) (refH hk - i % refH hk)) := by
 unfold pntW;rw [List.getElem?_map,List.getElem?_range h]; rfl
theorem pnt_lt {hk : Nat} (h1 : 1 ≤ hk) (j : Nat) (hj : j < refH hk) : min j (refH hk - j) < hk := by
 unfold refH at *;omega
theorem point_ok {hk t : Nat} (h1 : 1 ≤ hk) (h2 : hk ≤ 24) (t1 : 1 ≤ t) (h3 : t * refH hk ≤ 96) : (⟨hk,pntW hk t⟩ : HarN).Ok where
 h1 := h1
 h24 := h2
 w1 := by rw [pntW_len]; exact Nat.mul_pos t1 (refH_pos h1)
 w96 := by rw [pntW_len]; exact h3
 lt := fun w hw => by
  obtain ⟨i,hi,rfl⟩ := List.mem_map.1 hw;exact pnt_lt h1 _ (Nat.mod_lt _ (refH_pos h1))
theorem refl_ok {d : DesN} (hd : d.Ok) (h12 : d.hk ≤ 12) : (reflectN d).Ok where
 h1 := by have := hd.h1; show 1 ≤ reflH d; unfold reflH; omega
 h24 := by show reflH d ≤ 24; unfold reflH; omega
 r1 := by simpa [reflectN,madeN] using hd.r1
 r60 := by simpa [reflectN,madeN] using hd.r60
 lt := fun r hr => by
  unfold reflectN madeN at hr;obtain ⟨q,_,rfl⟩ := List.mem_map.1 hr;exact rowTo_lt _ _
theorem refl_bit {d : DesN} (hd : d.Ok) {p j : Nat} (hp : p < d.rows.length) (hj : j < refH d.hk) : ((reflectN d).rows.getD p 0).testBit j = (d.rows.getD p 0).testBit (min j (refH d.hk - j)) := by
 have hm := pnt_lt hd.h1 j hj;have e : reflH d = refH d.hk := rfl;unfold reflectN madeN;dsimp only;rw [List.getD_eq_getElem?_getD,List.getElem?_map,List.getElem?_range hp];simp only [Option.map_some,Option.getD_some];rw [rowTo_bit,e,decide_eq_true hj,Bool.true_and];unfold atN;rw [Nat.mod_eq_of_lt hp,Nat.mod_eq_of_lt hm]
theorem cloth_refl {d : DesN} (hd : d.Ok) (t : Nat) : clothV (reflectN d).rows (strW (refH d.hk) t) = clothV d.rows (pntW d.hk t) := by
 have hR := refH_pos hd.h1;have lr : (reflectN d).rows.length = d.rows.length := by simp [reflectN,madeN]
 apply List.ext_getElem?;intro p;by_cases hp : p < d.rows.length
 ·rw [cloth_at hp,cloth_at (by omega)]
  congr 2
  apply List.ext_getElem?;intro i;unfold pickB;rw [List.getElem?_map,List.getElem?_map];by_cases hi : i < t * refH d.hk
  ·rw [pntW_at hi,strW_at _ _ _ hi]
   simp only [Option.map_some];rw [refl_bit hd hp (Nat.mod_lt _ hR)]
  ·rw [List.getElem?_eq_none (by rw [strW_len]; omega),List.getElem?_eq_none (by simp; omega)]
   rfl
 ·rw [List.getElem?_eq_none (by simp; omega),List.getElem?_eq_none (by simp; omega)]
theorem pnt_sym {hk t w : Nat} (h1 : 1 ≤ hk) (ht : t = 1 ∨ t = 2) (hw : w < t * refH hk) : (pntW hk t)[(t * refH hk - w) % (t * refH hk)]? = (pntW hk t)[w]? := by
 have hR := refH_pos h1;have hv := Nat.mod_lt (t * refH hk - w) (show 0 < t * refH hk by omega)
 rw [pntW_at hv,pntW_at hw];generalize refH hk = R at *
 congr 1
 by_cases h0 : w = 0
 ·subst h0
  rw [Nat.sub_zero,Nat.mod_self]
 rw [Nat.mod_eq_of_lt (show t * R - w < t * R by omega)]
 rcases ht with rfl | rfl
 ·rw [Nat.one_mul] at *
  rw [Nat.mod_eq_of_lt (show R - w < R by omega),Nat.mod_eq_of_lt hw]
  omega
 ·by_cases c1 : w < R
  ·rw [Nat.mod_eq_of_lt c1,Nat.mod_eq_sub_mod (show 2 * R - w ≥ R by omega),Nat.mod_eq_of_lt (show 2 * R - w - R < R by omega)]
   omega
  ·by_cases c2 : w = R
   ·subst c2
    rw [show 2 * w - w = w by omega]
   ·rw [Nat.mod_eq_of_lt (show 2 * R - w < R by omega),Nat.mod_eq_sub_mod (show w ≥ R by omega),Nat.mod_eq_of_lt (show w - R < R by omega)]
    omega
theorem pick_sym (r : Nat) {hk t w : Nat} (h1 : 1 ≤ hk) (ht : t = 1 ∨ t = 2) (hw : w < t * refH hk) : (pickB r (pntW hk t)).getD ((t * refH hk - w) % (t * refH hk)) 0 = (pickB r (pntW hk t)).getD w 0 := by
 unfold pickB;rw [List.getD_eq_getElem?_getD,List.getElem?_map,pnt_sym h1 ht hw,List.getD_eq_getElem?_getD,List.getElem?_map]
def mxL (E : List FloatT) : Int := E.foldl (fun m f => max m f.len) 0
theorem mxL_go : ∀ (E : List FloatT) (m B : Int),E.foldl (fun m f => max m f.len) m ≤ B ↔ m ≤ B ∧ ∀ f ∈ E,f.len ≤ B
 | [],m,B => by simp
 | f :: E,m,B => by
  rw [List.foldl_cons,mxL_go E];simp only [List.mem_cons,forall_eq_or_imp];constructor
  ·rintro ⟨h1,h2⟩
   exact ⟨by omega,by omega,h2⟩
  ·rintro ⟨h1,h2,h3⟩
   exact ⟨by omega,h3⟩
theorem mxL_le {E : List FloatT} {B : Int} : mxL E ≤ B ↔ 0 ≤ B ∧ ∀ f ∈ E,f.len ≤ B := mxL_go E 0 B
theorem mxL_pos (E : List FloatT) : 0 ≤ mxL E := (mxL_le.1 (Int.le_refl _)).1
theorem mxL_mem {E : List FloatT} {f : FloatT} (h : f ∈ E) : f.len ≤ mxL E := (mxL_le.1 (Int.le_refl _)).2 f h
theorem mxL_take {E : List FloatT} {i : Nat} (h : i < E.length) : mxL (E.take (i + 1)) = max (mxL (E.take i)) E[i].len := by
 unfold mxL;rw [List.take_succ_eq_append_getElem h,List.foldl_append]; rfl
def keptF (b : Int) (l : List FloatT) : List FloatT := l.filter fun f => decide (b < f.len)
theorem kept_mem {b : Int} {R : Nat → List Bool} {n : Nat} {f : FloatT} : f ∈ keptF b (flTo R floatW n) ↔ b < f.len ∧ ∃ p,p < n ∧ ∃ x ∈ runsT (R p),f = floatW p x := by
 unfold keptF flTo;rw [List.mem_filter,List.mem_flatMap];constructor
 ·rintro ⟨⟨p,hp,hf⟩,hb⟩
  obtain ⟨x,hx,rfl⟩ := List.mem_map.1 hf;exact ⟨of_decide_eq_true hb,p,List.mem_range.1 hp,x,hx,rfl⟩
 ·rintro ⟨hb,p,hp,x,hx,rfl⟩
  exact ⟨⟨p,List.mem_range.2 hp,List.mem_map_of_mem hx⟩,decide_eq_true hb⟩
theorem mxL_same {b : Int} {R R' : Nat → List Bool} {n : Nat} (h : ∀ p,p < n → SameRuns (R p) (R' p)) : mxL (keptF b (flTo R floatW n)) ≤ mxL (keptF b (flTo R' floatW n)) := by
 rw [mxL_le];refine ⟨mxL_pos _,fun f hf => ?_⟩
 obtain ⟨hb,p,hp,x,hx,rfl⟩ := kept_mem.1 hf;obtain ⟨y,hy,-,hl⟩ := h p hp x hx;have e : (floatW p y).len = (floatW p x).len := by unfold floatW; dsimp only; rw [hl]
 rw [← e];exact mxL_mem (kept_mem.2 ⟨by rw [e]; exact hb,p,hp,y,hy,rfl⟩)
theorem times_two {l : List Bool} (h : 0 < l.length) : Times l (l ++ l) 0 2 where
 pos := h
 r1 := by omega
 len := by rw [List.length_append]; omega
 at' := fun i => by
  unfold gb;rw [Nat.add_zero,List.length_append];have hm := Nat.mod_lt i (show 0 < l.length + l.length by omega)
  have e : i % (l.length + l.length) % l.length = i % l.length := Nat.mod_mod_of_dvd _ ⟨2,by omega⟩
  rw [← e];generalize i % (l.length + l.length) = j at *;by_cases c : j < l.length
  ·rw [Nat.mod_eq_of_lt c,List.getD_eq_getElem?_getD,List.getElem?_append_left c,List.getD_eq_getElem?_getD]
  ·rw [Nat.mod_eq_sub_mod (by omega),Nat.mod_eq_of_lt (show j - l.length < l.length by omega),List.getD_eq_getElem?_getD,List.getElem?_append_right (by omega),List.getD_eq_getElem?_getD]
theorem beside_same (b : Int) (rows ws : List Nat) (h : 0 < ws.length) : mxL (keptF b (flTo (clothR rows ws) floatW rows.length)) = mxL (keptF b (flTo (clothR rows (ws ++ ws)) floatW rows.length)) := by
 have e : ∀ p,clothR rows (ws ++ ws) p = clothR rows ws p ++ clothR rows ws p := fun p => by unfold clothR ringS; rw [List.map_append]
 have hT : ∀ p,Times (clothR rows ws p) (clothR rows (ws ++ ws) p) 0 2 := fun p => by
  rw [e p];exact times_two (by simp [clothR]; omega)
 exact Int.le_antisymm (mxL_same fun p _ => (hT p).to) (mxL_same fun p _ => (hT p).back)
end Go.Abs
