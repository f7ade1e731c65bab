/-
 The tops over looms in bytes: designs, copies of them, of chains, of steps. No condition beyond those that each theorem names.
-/
import Derived.Test.YtgpbjihpkoiaiaaCB
import Derived.Test.YtgpbjihpkoiaiaaU1
set_option linter.all false
namespace Go.Abs
set_option maxRecDepth 10000
set_option maxHeartbeats 4000000
abbrev ByteB := Fin 256
def bytesV (l : List ByteB) : List AV := l.map fun r => .int .u8 (r.1 : Int)
@[simp] theorem bytes_len (l : List ByteB) : (bytesV l).length = l.length := by simp [bytesV]
structure LoomB where
 hooks : ByteB
 warps : List ByteB
 rows : List WordB
 cards : List ByteB
def LoomB.av (x : LoomB) : AV := .agg [.int .u8 (x.hooks.1 : Int), .list 1 (bytesV x.warps), .list 1 (wordsV x.rows), .list 1 (bytesV x.cards)]
def asrc (l : List WordB) (i : Nat) : Nat := (l[i]?.map fun r => r.1).getD 21
def armN (x : LoomB) : DesN := ⟨1 + x.hooks.1 % 12, (List.range (max 1 (min x.rows.length 10))).map fun i => asrc x.rows i % 2 ^ (1 + x.hooks.1 % 12)⟩
end Go.Abs
