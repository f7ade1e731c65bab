/-
 Calls whose answers are known are looked up: an evaluation by the kernel need not go into them again.
-/
import Derived.Test.YtlcikiobkmajbaaLim
import Derived.Test.YtlcikiobkmajbaaRel
set_option linter.all false
namespace Go.Abs
abbrev Memo:=List ((Nat × List AV) × (AV × List AV))
def memoFind (f : Nat) (args : List AV) : Memo → Option (AV × List AV)
 | [] => none
 | x :: t => if x.1.1 == f && AV.beqL x.1.2 args then some x.2 else memoFind f args t
noncomputable def memoCall (F : Nat → Option AFn) (n : Nat) (t : Memo) : CallF:=fun f args => match memoFind f args t with
 | some r => some r
 | none => evalCall F n f args
theorem memoFind_mem {f : Nat} {args : List AV} {r : AV × List AV} : ∀ {t : Memo},memoFind f args t = some r → ((f,args),r) ∈ t
 | [],h => by simp [memoFind] at h
 | ((g,xs),q) :: t,h => by
  simp only [memoFind] at h;split at h
  ·rename_i hc
   simp only [Bool.and_eq_true,beq_iff_eq] at hc;simp only [Option.some.injEq] at h;obtain ⟨rfl,h2⟩:=hc;rw [AV.beqL_eq _ _ h2,h];simp
  ·exact List.mem_cons_of_mem _ (memoFind_mem h)
theorem memo_le {F : Nat → Option AFn} {n : Nat} {t : Memo} (ht : ∀ x ∈ t,lim F x.1.1 x.1.2 = some x.2) : (memoCall F n t).le (lim F):=by
 intro f args r h;unfold memoCall at h;split at h
 ·rename_i q hq
  simp only [Option.some.injEq] at h;subst h;exact ht _ (memoFind_mem hq)
 ·exact lim_of_eval h
theorem lim_memo {F : Nat → Option AFn} {n m f : Nat} {t : Memo} {fn : AFn} {args : List AV} {r : AV × List AV} (hf : F f = some fn) (ht : ∀ x ∈ t,lim F x.1.1 x.1.2 = some x.2) (h : evalFn (memoCall F n t) m fn args = some r) : lim F f args = some r :=
 lim_intro (n:=m) hf (evalFn_mono (memo_le ht) (Nat.le_refl m) h)
end Go.Abs
