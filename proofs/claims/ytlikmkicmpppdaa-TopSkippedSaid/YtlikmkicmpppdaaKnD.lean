/-
 Several texts: Memo, ArmS, KnD.
-/
import Derived.Test.YtlikmkicmpppdaaLim
import Derived.Test.YtlikmkicmpppdaaRel
import Derived.Test.YtlikmkicmpppdaaK
import Derived.Test.YtlikmkicmpppdaaFns
import Derived.KernelRfl
set_option linter.all false
namespace Go.Abs
abbrev Memo := List ((Nat × List AV) × (AV × List AV))
def memoFind (f : Nat) (args : List AV) : Memo → Option (AV × List AV)
 | [] => none
 | x :: t => if x.1.1 == f && AV.beqL x.1.2 args then some x.2 else memoFind f args t
noncomputable def memoCall (F : Nat → Option AFn) (n : Nat) (t : Memo) : CallF := fun f args => match memoFind f args t with
 | some r => some r
 | none => evalCall F n f args
end Go.Abs
set_option linter.all false
namespace Go.Abs
set_option maxRecDepth 100000
theorem armSeam_ok : lim F 26 [] = some (.bool true, []) := lim_of_eval (n := 60) (by kernel_rfl)
end Go.Abs
set_option linter.all false
namespace Go.Abs
set_option maxRecDepth 100000
set_option maxHeartbeats 0
theorem armChain_ok : lim F 25 [] = some (.bool true, []) := lim_of_eval (n := 60) (by kernel_rfl)
end Go.Abs
