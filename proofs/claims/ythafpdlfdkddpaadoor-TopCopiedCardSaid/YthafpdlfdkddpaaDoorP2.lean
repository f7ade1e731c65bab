/-
 Chapter 1: what the statements share. No condition beyond those that each theorem names.
-/
import Derived.Test.YthafpdlfdkddpaaDoorP1
set_option linter.all false
namespace Go.Abs
set_option maxRecDepth 10000
set_option maxHeartbeats 2000000

def largeT (l : List DesA) : Bool := l.any fun d => decide (70 < d.rows.length)
def likeT (a b : DesA) : Bool := decide (a.hk = b.hk) && decide (a.rows.length = b.rows.length)
def sameT (a b : DesA) : Bool := decide (a.hk = b.hk) && decide (a.rows = b.rows)
end Go.Abs
