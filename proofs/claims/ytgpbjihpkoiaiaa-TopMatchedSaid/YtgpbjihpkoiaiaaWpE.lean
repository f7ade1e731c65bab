/-
 A function's contract that leaves its result open: it is so, and has a property.
-/
import Derived.Test.YtgpbjihpkoiaiaaK
set_option linter.all false
namespace Go.Abs
def finP (res : List ARes) (P : AV × List AV → Prop) : AEx → Fr → Prop
 | .exit _, _ => False
 | _, fr => ∃ r, finL res fr = some r ∧ P r
def LkIs {α : Type} (k : Nat) (l : List (Nat × α)) (o : Option α) : Prop := lk k l = o
end Go.Abs
