/-
 Chapter 1: Floats and Proof. No condition beyond those that each theorem names.
-/
import Derived.Test.YtlikmkicmpppdaaP5
set_option linter.all false
namespace Go.Abs
set_option maxRecDepth 10000
set_option maxHeartbeats 4000000
structure FIn (N H : Nat) (f : FloatT) : Prop where
 p : 0 ≤ f.pick ∧ f.pick < N
 h : 0 ≤ f.hook ∧ f.hook < H
 l : 1 ≤ f.len ∧ f.len ≤ 1000
def filF (l : List FloatT) (b : Int) (i : Nat) : List AV := (((l.take i).filter fun f => decide (b < f.len)).map FloatT.av)
end Go.Abs
