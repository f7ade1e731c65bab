/-
 Chapter 1: designs in bytes. No condition beyond those that each theorem names.
-/
import Derived.Test.YtkjlmfabhejbnaaDoorP2
import Derived.Test.YtkjlmfabhejbnaaDoorP4
set_option linter.all false
namespace Go.Abs
set_option maxRecDepth 10000
set_option maxHeartbeats 4000000
structure PaperB where
 hk : Fin 256
 rows : List (Fin 65536)
def PaperB.av (x : PaperB) : AV := .agg [.int .u8 (x.hk.1 : Int), .list 1 (x.rows.map fun r => .int .u16 (r.1 : Int))]
def PaperB.src (x : PaperB) (i : Nat) : Nat := (x.rows[i]?.map fun r => r.1).getD 37
def paperRow (hk r : Nat) : Nat := (r ||| r * 65536) &&& (2 ^ hk - 1)
def paperN (x : PaperB) (m : Nat) : DesN := ⟨1 + x.hk.1 % m, (List.range (max 1 (min x.rows.length 20))).map fun i => paperRow (1 + x.hk.1 % m) (x.src i)⟩
end Go.Abs
