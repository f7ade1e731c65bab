/-
 Several texts: KB, KnP1, KnA.
-/
import Derived.Test.YtgpbjihpkoiaiaaFns
import Derived.Test.YtgpbjihpkoiaiaaK
import Derived.Test.YtgpbjihpkoiaiaaMemo
import Derived.KernelRfl
set_option linter.all false
namespace Go.Abs
set_option maxRecDepth 100000
set_option maxHeartbeats 0
def bA0 : List AV := [.bor [iv 0,iv 0,iv 6,iv 2,.bool false,.const (.map none)]]
def bR0 : AV × List AV := (.tuple [.int .i64 9,.int .i64 2],[.bor [.int .i64 0,.int .i64 0,.int .i64 6,.int .i64 2,.bool false,.ownM [true,true,true,false] [[.int .i64 1,.int .i64 2,.int .i64 2,.bool false],[.int .i64 1,.int .i64 1,.int .i64 2,.bool true],[.int .i64 2,.int .i64 1,.int .i64 2,.bool false],[.int .i64 1,.int .i64 1,.int .i64 2,.bool false],[.int .i64 2,.int .i64 2,.int .i64 2,.bool true],[.int .i64 3,.int .i64 1,.int .i64 2,.bool true],[.int .i64 4,.int .i64 2,.int .i64 0,.bool false]] [.int .i64 1,.int .i64 1,.int .i64 1,.int .i64 1,.int .i64 1,.int .i64 1,.int .i64 2]]])
theorem bind0 : lim F 139 bA0 = some bR0 := lim_of_eval (n := 60) (by kernel_rfl)
end Go.Abs
namespace Go.Abs
set_option maxRecDepth 100000
set_option maxHeartbeats 0
def bA21 : List AV := [.bor [iv 21,iv 0,iv 6,iv 2,.bool false,.const (.map none)]]
def bR21 : AV × List AV := (.tuple [.int .i64 21,.int .i64 0],[.bor [.int .i64 21,.int .i64 0,.int .i64 6,.int .i64 2,.bool false,.ownM [true,true,true,false] [[.int .i64 1,.int .i64 2,.int .i64 2,.bool false],[.int .i64 1,.int .i64 1,.int .i64 2,.bool true],[.int .i64 2,.int .i64 1,.int .i64 2,.bool false],[.int .i64 1,.int .i64 1,.int .i64 2,.bool false],[.int .i64 2,.int .i64 2,.int .i64 2,.bool true],[.int .i64 3,.int .i64 1,.int .i64 2,.bool true],[.int .i64 4,.int .i64 2,.int .i64 0,.bool false],[.int .i64 1,.int .i64 1,.int .i64 1,.bool true],[.int .i64 2,.int .i64 2,.int .i64 1,.bool false],[.int .i64 1,.int .i64 1,.int .i64 1,.bool false],[.int .i64 1,.int .i64 2,.int .i64 1,.bool true],[.int .i64 2,.int .i64 1,.int .i64 1,.bool true],[.int .i64 3,.int .i64 1,.int .i64 1,.bool false],[.int .i64 1,.int .i64 2,.int .i64 1,.bool false],[.int .i64 2,.int .i64 1,.int .i64 1,.bool false],[.int .i64 3,.int .i64 2,.int .i64 1,.bool true],[.int .i64 4,.int .i64 1,.int .i64 1,.bool true]] [.int .i64 0,.int .i64 0,.int .i64 0,.int .i64 0,.int .i64 0,.int .i64 0,.int .i64 1,.int .i64 0,.int .i64 1,.int .i64 0,.int .i64 1,.int .i64 0,.int .i64 0,.int .i64 0,.int .i64 0,.int .i64 1,.int .i64 0]]])
theorem bind21 : lim F 139 bA21 = some bR21 := lim_of_eval (n := 60) (by kernel_rfl)
end Go.Abs
namespace Go.Abs
set_option maxRecDepth 100000
set_option maxHeartbeats 0
def bA56 : List AV := [.bor [iv 56,iv 0,iv 6,iv 2,.bool false,.const (.map none)]]
def bR56 : AV × List AV := (.tuple [.int .i64 25,.int .i64 2],[.bor [.int .i64 56,.int .i64 0,.int .i64 6,.int .i64 2,.bool false,.ownM [true,true,true,false] [[.int .i64 1,.int .i64 2,.int .i64 2,.bool false],[.int .i64 1,.int .i64 1,.int .i64 2,.bool true],[.int .i64 2,.int .i64 1,.int .i64 2,.bool false],[.int .i64 1,.int .i64 1,.int .i64 2,.bool false],[.int .i64 2,.int .i64 2,.int .i64 2,.bool true],[.int .i64 3,.int .i64 1,.int .i64 2,.bool true],[.int .i64 4,.int .i64 2,.int .i64 0,.bool false],[.int .i64 1,.int .i64 1,.int .i64 1,.bool true],[.int .i64 2,.int .i64 2,.int .i64 1,.bool false],[.int .i64 1,.int .i64 1,.int .i64 1,.bool false],[.int .i64 1,.int .i64 2,.int .i64 1,.bool true],[.int .i64 2,.int .i64 1,.int .i64 1,.bool true],[.int .i64 3,.int .i64 1,.int .i64 1,.bool false],[.int .i64 1,.int .i64 2,.int .i64 1,.bool false],[.int .i64 2,.int .i64 1,.int .i64 1,.bool false],[.int .i64 3,.int .i64 2,.int .i64 1,.bool true],[.int .i64 4,.int .i64 1,.int .i64 1,.bool true]] [.int .i64 1,.int .i64 1,.int .i64 1,.int .i64 1,.int .i64 1,.int .i64 1,.int .i64 1,.int .i64 0,.int .i64 1,.int .i64 1,.int .i64 0,.int .i64 1,.int .i64 1,.int .i64 1,.int .i64 1,.int .i64 1,.int .i64 1]]])
theorem bind56 : lim F 139 bA56 = some bR56 := lim_of_eval (n := 60) (by kernel_rfl)
end Go.Abs
namespace Go.Abs
set_option maxRecDepth 100000
set_option maxHeartbeats 0
def bA63 : List AV := [.bor [iv 0,iv 63,iv 6,iv 2,.bool false,.const (.map none)]]
def bR63 : AV × List AV := (.tuple [.int .i64 0,.int .i64 1048576],[.bor [.int .i64 0,.int .i64 63,.int .i64 6,.int .i64 2,.bool true,.ownM [true,true,true,false] [[.int .i64 1,.int .i64 1,.int .i64 1,.bool false],[.int .i64 1,.int .i64 2,.int .i64 1,.bool true],[.int .i64 2,.int .i64 1,.int .i64 1,.bool true],[.int .i64 3,.int .i64 2,.int .i64 1,.bool false],[.int .i64 1,.int .i64 2,.int .i64 1,.bool false],[.int .i64 1,.int .i64 1,.int .i64 1,.bool true],[.int .i64 2,.int .i64 1,.int .i64 1,.bool false],[.int .i64 2,.int .i64 2,.int .i64 1,.bool true],[.int .i64 3,.int .i64 1,.int .i64 1,.bool true],[.int .i64 4,.int .i64 1,.int .i64 1,.bool false],[.int .i64 1,.int .i64 1,.int .i64 2,.bool true],[.int .i64 2,.int .i64 2,.int .i64 2,.bool false],[.int .i64 1,.int .i64 1,.int .i64 2,.bool false],[.int .i64 1,.int .i64 2,.int .i64 2,.bool true],[.int .i64 2,.int .i64 1,.int .i64 2,.bool true],[.int .i64 3,.int .i64 1,.int .i64 2,.bool false],[.int .i64 4,.int .i64 2,.int .i64 0,.bool true],[.int .i64 5,.int .i64 1,.int .i64 0,.bool true]] [.int .i64 0,.int .i64 0,.int .i64 0,.int .i64 1048576,.int .i64 1048576,.int .i64 0,.int .i64 1048576,.int .i64 0,.int .i64 1048576,.int .i64 1048576,.int .i64 0,.int .i64 1048576,.int .i64 0,.int .i64 0,.int .i64 0,.int .i64 1048576,.int .i64 1048576,.int .i64 1048576]]])
end Go.Abs
namespace Go.Abs
set_option maxRecDepth 100000
set_option maxHeartbeats 0
def bA7 : List AV := [.bor [iv 7,iv 0,iv 6,iv 2,.bool false,.const (.map none)]]
def bR7 : AV × List AV := (.tuple [.int .i64 11,.int .i64 2],[.bor [.int .i64 7,.int .i64 0,.int .i64 6,.int .i64 2,.bool false,.ownM [true,true,true,false] [[.int .i64 1,.int .i64 2,.int .i64 2,.bool false],[.int .i64 1,.int .i64 1,.int .i64 2,.bool true],[.int .i64 2,.int .i64 1,.int .i64 2,.bool false],[.int .i64 1,.int .i64 1,.int .i64 2,.bool false],[.int .i64 2,.int .i64 2,.int .i64 2,.bool true],[.int .i64 3,.int .i64 1,.int .i64 2,.bool true],[.int .i64 4,.int .i64 2,.int .i64 0,.bool false]] [.int .i64 0,.int .i64 0,.int .i64 0,.int .i64 0,.int .i64 1,.int .i64 1,.int .i64 2]]])
theorem bind7 : lim F 139 bA7 = some bR7 := lim_of_eval (n := 60) (by kernel_rfl)
end Go.Abs
set_option linter.all false
namespace Go.Abs
set_option maxRecDepth 100000
set_option maxHeartbeats 0
def bindM : Memo := [((139,bA7),bR7),((139,bA56),bR56),((139,bA0),bR0),((139,bA21),bR21)]
theorem bindM_ok (x) (hx : x ∈ bindM) : lim F x.1.1 x.1.2 = some x.2 := by
 simp only [bindM,List.mem_cons,List.not_mem_nil,or_false] at hx;rcases hx with rfl | rfl | rfl | rfl
 ·exact bind7
 ·exact bind56
 ·exact bind0
 ·exact bind21
theorem pubBind_ok : lim F 85 [.agg [iv 6,.list 1 [iv 7,iv 56,iv 0,iv 21]],.list 1 [iv 0,iv 0,iv 0,iv 0],iv 2] = some (.tuple [.agg [iv 6,.own 1 [iv 11,iv 25,iv 9,iv 21]],iv 6,iv 0],[]) := lim_memo (n := 60) (m := 60) (t := bindM) rfl bindM_ok (by kernel_rfl)
end Go.Abs
set_option linter.all false
namespace Go.Abs
set_option maxRecDepth 100000
set_option maxHeartbeats 0
def armPM : Memo := [((85,[.agg [iv 6,.list 1 [iv 7,iv 56,iv 0,iv 21]],.list 1 [iv 0,iv 0,iv 0,iv 0],iv 2]),(.tuple [.agg [iv 6,.own 1 [iv 11,iv 25,iv 9,iv 21]],iv 6,iv 0],[]))]
theorem armPoint_ok : lim F 41 [] = some (.bool true,[]) := by
 refine lim_memo (n := 60) (m := 60) (t := armPM) rfl (fun x hx => ?_) (by kernel_rfl)
 simp only [armPM,List.mem_cons,List.not_mem_nil,or_false] at hx;subst hx;exact pubBind_ok
end Go.Abs
