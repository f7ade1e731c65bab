/-
 Chapter 12: the document's original with the fewest changes. No condition beyond those that each theorem names.
-/
import Derived.Test.YtodpkfillohplaaDoorX7
set_option linter.all false
namespace Go.Abs
set_option maxRecDepth 10000
set_option maxHeartbeats 4000000
def holeB (d : DesN) (i q : Nat) : Bool := (d.rows.getD i 0).testBit q
def someTo (l : List DesN) (i q k : Nat) : Bool := (l.take k).any fun d => holeB d i q
def allTo (l : List DesN) (i q k : Nat) : Bool := (l.take k).all fun d => holeB d i q
def condT (t : Bool) (l : List DesN) (i q : Nat) : Bool := if t then allTo l i q l.length else someTo l i q l.length
def firstR (t : Bool) (hk n : Nat) (l : List DesN) : List Nat := (List.range n).map fun i => rowTo (condT t l i) hk
end Go.Abs
