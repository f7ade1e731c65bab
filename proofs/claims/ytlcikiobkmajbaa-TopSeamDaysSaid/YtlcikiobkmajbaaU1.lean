/-
 Several texts: L1, V1, V2, U1.
-/
import Derived.Test.YtlcikiobkmajbaaV0
set_option linter.all false
namespace Go.Abs
set_option maxRecDepth 10000
set_option maxHeartbeats 2000000
def DesN.cap (d : DesN) : AV:=.iptr (.agg [iv (d.hk : Int),.list 1 (d.rows.map fun n : Nat => iv (n : Int))]) 0
end Go.Abs
set_option linter.all false
namespace Go.Abs
set_option maxRecDepth 10000
set_option maxHeartbeats 4000000
def Lr (g : Nat → Nat → Bool) (picks hooks p v : Nat) : List AV:=(List.range picks).map fun q => iv ((if q < p then rowTo (g q) hooks else if q = p then v else 0 : Nat) : Int)
def madeN (g : Nat → Nat → Bool) (picks hooks : Nat) : DesN:=⟨hooks,(List.range picks).map fun q => rowTo (g q) hooks⟩
end Go.Abs
set_option linter.all false
namespace Go.Abs
set_option maxRecDepth 10000
set_option maxHeartbeats 4000000
def mirrorN (d : DesN) : DesN:=madeN (fun p h => atN d p (d.hk - 1 - h)) d.rows.length d.hk
def flipN (d : DesN) : DesN:=madeN (fun p h => atN d (d.rows.length - 1 - p) h) d.rows.length d.hk
def backN (d : DesN) : DesN:=madeN (fun p h => !atN d p h) d.rows.length d.hk
def shiftN (d : DesN) (a b : Nat) : DesN:=madeN (fun p h => atN d (p + d.rows.length - a) (h + d.hk - b)) d.rows.length d.hk
def DesN.out (d : DesN) : AV:=.agg [iv (d.hk : Int),.own 1 (d.rows.map fun n : Nat => iv (n : Int))]
end Go.Abs
set_option linter.all false
namespace Go.Abs
set_option maxRecDepth 10000
set_option maxHeartbeats 4000000
abbrev WordB:=Fin 65536
def wordsV (l : List WordB) : List AV:=l.map fun r => .int .u16 (r.1 : Int)
@[simp] theorem words_len (l : List WordB) : (wordsV l).length = l.length:=by simp [wordsV]
def wsrc (l : List WordB) (i : Nat) : Nat:=(l[i]?.map fun r => r.1).getD 1
def pubN (v : Nat) (l : List WordB) : DesN:=⟨2 + v % 7,(List.range (max 1 (min l.length 12))).map fun i => wsrc l i % 2 ^ (2 + v % 7)⟩
end Go.Abs
