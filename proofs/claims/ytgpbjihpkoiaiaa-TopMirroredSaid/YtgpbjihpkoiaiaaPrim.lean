/-
 Functions that were walked by hand: their code is one operation, a function of values.
-/
import Derived.Test.YtgpbjihpkoiaiaaWalk
import Derived.Test.YtgpbjihpkoiaiaaLim
import Derived.Below
set_option linter.all false
namespace Go.Abs
open Go.RowKit
theorem primA2_eval {call : CallF} {n : Nat} {f : List AV → Option AV} {x y : AV} {fr : Fr} (hfr : fr.tm = [(0,x),(1,y)]) :
  evalCode call n (primA2 f).body fr = match f [x,y] with
   | some v => some (.normal,⟨[(2,v)],fr.rows,fr.lent,fr.next + siteWidth⟩)
   | none => none := by
 obtain ⟨tm,rows,lent,nx⟩ := fr;simp only at hfr; subst hfr
 simp only [primA2,evalCode,runRegion,runOps,stepOp,evalOp,mapO,getO,lk,if_true,Nat.one_ne_zero,Nat.zero_ne_one,if_false];cases f [x,y] with
 | none => rfl
 | some v => simp [putT,updRows,keepT,del,Eff.pure,lk]
theorem primI_agg {n : Nat} {a : AV} {cs : List AV} (h : (imArg n a).1 = .agg cs) : a = .agg cs := by
 cases a <;> simp [imArg] at h ⊢
 exact h
theorem primI_int {n : Nat} {a : AV} {k : IntKind} {m : Int} (h : (imArg n a).1 = .int k m) : a = .int k m := by
 cases a <;> simp [imArg] at h ⊢
 exact h
theorem primA2_of {call : CallF} {n : Nat} {f : List AV → Option AV} {cs : List AV} {k : IntKind} {m : Int} {c : Value} (h : f [.agg cs,.int k m] = some (.const c)) :
  evalFn call n (primA2 f) [.agg cs,.int k m] = some (.const c,[]) := by
 unfold evalFn;rw [if_pos ⟨rfl,show entryBase ≤ nextBase by decide⟩,primA2_eval (x := .agg cs) (y := .int k m) rfl,h]
 rfl
theorem primA2_inv {call : CallF} {n : Nat} {f : List AV → Option AV} (hf : ∀ x y v,f [x,y] = some v → (∃ cs,x = .agg cs) ∧ (∃ k m,y = .int k m) ∧ ∃ c,v = .const c) {args : List AV} {r : AV × List AV}
  (h : evalFn call n (primA2 f) args = some r) : ∃ cs k m c,args = [.agg cs,.int k m] ∧ f args = some (.const c) ∧ r = (.const c,[]) := by
 have h0 := h;unfold evalFn at h;split at h
 ·rename_i hl
  match args,hl with
  | [x,y],hl =>
   rw [primA2_eval (x := (imArg entryBase x).1) (y := (imArg (imArg entryBase x).2.2 y).1) rfl] at h;cases hv : f [(imArg entryBase x).1,(imArg (imArg entryBase x).2.2 y).1] with
   | none => rw [hv] at h; cases h
   | some v =>
    obtain ⟨⟨cs,h1⟩,⟨k,m,h2⟩,c,rfl⟩ := hf _ _ _ hv;have e1 := primI_agg h1;have e2 := primI_int h2;subst e1 e2;have h3 : f [.agg cs,.int k m] = some (.const c) := hv;rw [primA2_of h3] at h0;cases h0;exact ⟨cs,k,m,c,rfl,h3,rfl⟩
 ·cases h
theorem lim_prim2 {F : Nat → Option AFn} {g : Nat} {f : List AV → Option AV} {cs : List AV} {k : IntKind} {m : Int} {c : Value} (hg : F g = some (primA2 f)) (h : f [.agg cs,.int k m] = some (.const c)) :
  lim F g [.agg cs,.int k m] = some (.const c,[]) :=
 lim_iff.2 ⟨1,by simp only [evalCall,hg]; exact primA2_of h⟩
theorem ext_prim2 {P : Program} {g : Nat} {f : List AV → Option AV} (hf : ∀ x y v,f [x,y] = some v → (∃ cs,x = .agg cs) ∧ (∃ k m,y = .int k m) ∧ ∃ s,v = .const (.string s)) (hE : Enterable P g)
  (h : ∀ cs k m s,f [.agg cs,.int k m] = some (.const (.string s)) → ∀ (S : Nat → Prop) (w : World) (v u : Value),RelI S w v (.agg cs) → u = .int k m →
   Calls P g #[v,u] w fun e w' => e = .returned (.string s) ∧ Below w.heap.size w w') : ExtOk P g (primA2 f) := by
 intro call n args r he;obtain ⟨cs,k,m,c,rfl,h1,rfl⟩ := primA2_inv (fun x y v hv => by obtain ⟨a,b,s,rfl⟩ := hf x y v hv; exact ⟨a,b,_,rfl⟩) he
 obtain ⟨-,-,s,hs⟩ := hf _ _ _ h1;cases hs;refine ⟨?_,hE⟩;intro Γ S w vs bs hA hnd hbs hS hG
 match vs,hA with
 | [v,u],hA =>
  obtain ⟨b1,b2,⟨rfl,ha⟩,⟨b3,b4,⟨rfl,hb⟩,rfl,rfl⟩,rfl⟩ := hA;have hu : u = .int k m := by cases hb; rfl
  subst hu;refine (h cs k m s h1 S w v _ ha rfl).mono fun e w' hp => ?_
  obtain ⟨rfl,hbw⟩ := hp;refine ⟨_,S,[],[],rfl,⟨rfl,.const _⟩,rfl,by simp,by simp,fun _ h => h,fun b hb => ⟨.inl hb,?_⟩,fun b hb _ => hbw.block b hb,?_⟩
  ·have := hS b hb; have := hbw.size; omega
  ·exact ⟨hbw.os,hbw.tape,hbw.output,hbw.size⟩
end Go.Abs
