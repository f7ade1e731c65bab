/-
 Designs beside and above each other, and point repeats, in plain Lean: no program in sight.
-/
import Derived.Test.YtgpbjihpkoiaiaaM7
set_option linter.all false
namespace Go.Abs
set_option maxRecDepth 10000
def besideN (a b : DesN) : DesN := ⟨a.hk + b.hk,(List.range a.rows.length).map fun i => a.rows.getD i 0 ||| b.rows.getD i 0 * 2 ^ a.hk⟩
def aboveN (a b : DesN) : DesN := ⟨a.hk,a.rows ++ b.rows⟩
def reflH (d : DesN) : Nat := d.hk + (d.hk - 2)
def reflectN (d : DesN) : DesN := madeN (fun p h => atN d p (min h (reflH d - h))) d.rows.length (reflH d)
end Go.Abs
