/-
 Longest floats of turned and shifted points, in plain Lean: no program in sight.
-/
import Derived.Test.YtgpbjihpkoiaiaaU1
import Derived.Test.YtgpbjihpkoiaiaaV0
import Derived.Test.YtgpbjihpkoiaiaaM15
set_option linter.all false
namespace Go.Abs
set_option maxRecDepth 10000
def SameRuns (l l' : List Bool) : Prop := ∀ x ∈ runsT l,∃ y ∈ runsT l',y.up = x.up ∧ y.len = x.len
structure Keeps (mk : Nat → RunT → FloatT) : Prop where
 up : ∀ i x,(mk i x).up = x.up
 len : ∀ i x,(mk i x).len = x.len
structure LikeD (d e : DesN) : Prop where
 ok : d.Ok
 ok' : e.Ok
 w : ∀ i,i < d.rows.length → ∃ j,j < e.rows.length ∧ SameRuns (pickR d i) (pickR e j)
 w' : ∀ i,i < e.rows.length → ∃ j,j < d.rows.length ∧ SameRuns (pickR e i) (pickR d j)
 h : ∀ i,i < d.hk → ∃ j,j < e.hk ∧ SameRuns (hookR d i) (hookR e j)
 h' : ∀ i,i < e.hk → ∃ j,j < d.hk ∧ SameRuns (hookR e i) (hookR d j)
end Go.Abs
