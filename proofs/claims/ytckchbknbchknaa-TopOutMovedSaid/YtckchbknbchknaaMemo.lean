/-
 Calls whose answers are known are looked up: an evaluation by the kernel need not go into them again.
-/
import Derived.Test.YtckchbknbchknaaLim
import Derived.Test.YtckchbknbchknaaRel
set_option linter.all false
namespace Go.Abs
abbrev Memo := List ((Nat × List AV) × (AV × List AV))
def memoFind (f : Nat) (args : List AV) : Memo → Option (AV × List AV)
 | [] => none
 | x :: t => if x.1.1 == f && AV.beqL x.1.2 args then some x.2 else memoFind f args t
noncomputable def memoCall (F : Nat → Option AFn) (n : Nat) (t : Memo) : CallF := fun f args => match memoFind f args t with
 | some r => some r
 | none => evalCall F n f args
end Go.Abs
