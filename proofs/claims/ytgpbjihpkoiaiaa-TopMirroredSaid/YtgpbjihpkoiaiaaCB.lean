/-
 Chapter 2: what a chain weaves; the chain of a design. No condition beyond those that each theorem names.
-/
import Derived.Test.YtgpbjihpkoiaiaaCA
import Derived.Test.YtgpbjihpkoiaiaaV0
set_option linter.all false
namespace Go.Abs
set_option maxRecDepth 10000
set_option maxHeartbeats 2000000
def rowAt (b : BeltN) (i : Nat) : Nat := (b.cards[i]?.map (·.row)).getD 0
def posW (n first : Nat) (steps : List Nat) : Nat → Nat
 | 0 => first
 | i + 1 => (posW n first steps i + steps[i]?.getD 0) % n
def wovenW (b : BeltN) (first : Nat) (steps : List Nat) : List Nat := (List.range steps.length).map fun i => rowAt b (posW b.cards.length first steps i)
def punchN (d : DesN) : BeltN := ⟨d.hk,d.rows.zipIdx.map fun p => ⟨p.2,p.1,false⟩⟩
end Go.Abs
