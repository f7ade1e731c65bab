/-
 Chapter 1: tables of points, as the document makes them. No condition beyond those that each theorem names.
-/
import Derived.Test.YthafpdlfdkddpaaDoorP2
import Derived.Test.YthafpdlfdkddpaaDoorM5
set_option linter.all false
namespace Go.Abs
set_option maxRecDepth 10000
set_option maxHeartbeats 2000000

def ringV (l : List Bool) : AV := .list 1 (l.map fun b => .bool b)
def tabV (t : List (List Bool)) : List AV := t.map ringV
@[go_sem] theorem bool_plain (l : List Bool) : (l.map fun b => AV.bool b).all AV.plain = true := by
 simp [AV.plain, AV.plain1]

/-- the points of a row -/
def ptsT (r n : Nat) : List Bool := (List.range n).map fun h => r.testBit h
def tabN (d : DesN) (k : Nat) : List (List Bool) := (d.rows.take k).map fun r => ptsT r d.hk
end Go.Abs
