/-
 A function's contract that leaves its result open: it is so, and has a property.
-/
import Derived.Test.YtlcikiobkmajbaaK
set_option linter.all false
namespace Go.Abs
def finP (res : List ARes) (P : AV × List AV → Prop) : AEx → Fr → Prop
 | .exit _,_ => False
 | _,fr => ∃ r,finL res fr = some r∧P r
theorem finp_ret {res : List ARes} {P : AV × List AV → Prop} {r : AV × List AV} {fr : Fr} (h : finL res fr = some r) (hp : P r) : finP res P .ret fr:=⟨r,h,hp⟩
theorem finp_norm {res : List ARes} {P : AV × List AV → Prop} {r : AV × List AV} {fr : Fr} (h : finL res fr = some r) (hp : P r) : finP res P .normal fr:=⟨r,h,hp⟩
theorem lim_ex {F : Nat → Option AFn} {f : Nat} {fn : AFn} {args : List AV} {P : AV × List AV → Prop} {k : Nat} {res : List ARes} {body : ACode} (hf : F f = some fn) (he : fn = ⟨k,res,body⟩) (ha : args.length = k) (hi : (imArgs 200000 args).2.2.2≤10000000)
  (h : Wp (lim F) body ⟨enumFrom 0 (imArgs 200000 args).1,(imArgs 200000 args).2.1,(imArgs 200000 args).2.2.1,10000000⟩ (finP res P)) : ∃ r,lim F f args = some r∧P r:=by
 unfold Wp at h;obtain ⟨n,ex,fr',h1,h2⟩:=h;have key : ∃ r,finR res r ex fr'∧P r:=by
  cases ex with
  | exit i => exact h2.elim
  | normal => exact h2
  | ret => exact h2
 obtain ⟨r,h3,h4⟩:=key;refine ⟨r,Yr hf he ha hi ?_,h4⟩;unfold Wp;exact ⟨n,ex,fr',h1,h3⟩
def LkIs {α : Type} (k : Nat) (l : List (Nat × α)) (o : Option α) : Prop:=lk k l = o
theorem lk_is {α : Type} {k : Nat} {l : List (Nat × α)} {o : Option α} (h : lk k l = o) : LkIs k l o:=h
theorem lk_by {α : Type} {k : Nat} {l : List (Nat × α)} {v : α} (h : LkIs k l (some v)) : lk k l = some v:=h
end Go.Abs
