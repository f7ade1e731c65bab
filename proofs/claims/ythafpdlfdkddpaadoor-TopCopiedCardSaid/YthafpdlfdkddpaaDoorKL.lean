/-
 Chapter 1: the longest floats, in every order of the map. No condition beyond those that each theorem names.
-/
import Derived.Test.YthafpdlfdkddpaaDoorFns
import Derived.Test.YthafpdlfdkddpaaDoorK
import Derived.Test.YthafpdlfdkddpaaDoorEvI
set_option linter.all false
namespace Go.Abs
set_option maxRecDepth 10000
set_option maxHeartbeats 8000000

structure FloatT where
 pick : Int
 hook : Int
 len : Int
 up : Bool
def FloatT.av (f : FloatT) : AV := .agg [iv f.pick, iv f.hook, iv f.len, .bool f.up]
def mxStep (b : Bool) (m : Int) (f : FloatT) : Int := if f.up = b then max m f.len else m
def mxF (b : Bool) (l : List FloatT) : Int := l.foldl (mxStep b) 0
def e1L : Int × AV := (1, .agg [.ptr 128 0 0, .ptr 128 0 1])
def e2L : Int × AV := (2, .agg [.ptr 128 0 3, .ptr 128 0 2])
end Go.Abs
