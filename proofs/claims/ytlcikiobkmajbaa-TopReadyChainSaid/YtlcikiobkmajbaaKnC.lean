/-
 Several texts: KnW, KnC.
-/
import Derived.Test.YtlcikiobkmajbaaMemo
import Derived.Test.YtlcikiobkmajbaaFns
import Derived.Test.YtlcikiobkmajbaaK
import Derived.KernelRfl
set_option linter.all false
namespace Go.Abs
set_option maxRecDepth 100000
set_option maxHeartbeats 0
abbrev beltC : AV:=.list 3 [.agg [iv 0,iv 1,.bool false],.agg [iv 3,iv 8,.bool false],.agg [iv 1,iv 2,.bool false],.agg [iv 2,iv 4,.bool false],.agg [iv 4,iv 15,.bool false]]
abbrev cylC : AV:=.agg [iv 4,beltC,iv 4,.list 1 [iv 8,iv 2,iv 2,iv (-1),iv 1]]
theorem wvK0 : lim F 155 [cylC,iv 0,iv 0] = some (.bool false,[]):=lim_of_eval (n:=30) (by kernel_rfl)
theorem wvK1 : lim F 155 [cylC,iv 0,iv 1] = some (.bool true,[]):=lim_of_eval (n:=30) (by kernel_rfl)
theorem wvK2 : lim F 155 [cylC,iv 0,iv 2] = some (.bool false,[]):=lim_of_eval (n:=30) (by kernel_rfl)
theorem wvK3 : lim F 155 [cylC,iv 0,iv 3] = some (.bool false,[]):=lim_of_eval (n:=30) (by kernel_rfl)
theorem wvK4 : lim F 155 [cylC,iv 0,iv 4] = some (.bool false,[]):=lim_of_eval (n:=30) (by kernel_rfl)
theorem wvK5 : lim F 155 [cylC,iv 1,iv 1] = some (.bool false,[]):=lim_of_eval (n:=30) (by kernel_rfl)
theorem wvK6 : lim F 155 [cylC,iv 1,iv 2] = some (.bool true,[]):=lim_of_eval (n:=30) (by kernel_rfl)
theorem wvK7 : lim F 155 [cylC,iv 1,iv 3] = some (.bool false,[]):=lim_of_eval (n:=30) (by kernel_rfl)
theorem wvK8 : lim F 155 [cylC,iv 2,iv 2] = some (.bool true,[]):=lim_of_eval (n:=30) (by kernel_rfl)
theorem wvK9 : lim F 155 [cylC,iv 2,iv 3] = some (.bool false,[]):=lim_of_eval (n:=30) (by kernel_rfl)
theorem wvK10 : lim F 155 [cylC,iv 2,iv 4] = some (.bool false,[]):=lim_of_eval (n:=30) (by kernel_rfl)
theorem wvK11 : lim F 155 [cylC,iv 3,iv 2] = some (.bool true,[]):=lim_of_eval (n:=30) (by kernel_rfl)
theorem wvK12 : lim F 155 [cylC,iv 3,iv 3] = some (.bool true,[]):=lim_of_eval (n:=30) (by kernel_rfl)
theorem wvK13 : lim F 155 [cylC,iv 3,iv 4] = some (.bool true,[]):=lim_of_eval (n:=30) (by kernel_rfl)
theorem wvK14 : lim F 155 [cylC,iv 4,iv 0] = some (.bool true,[]):=lim_of_eval (n:=30) (by kernel_rfl)
theorem wvK15 : lim F 155 [cylC,iv 4,iv 3] = some (.bool false,[]):=lim_of_eval (n:=30) (by kernel_rfl)
theorem wvK16 : lim F 155 [cylC,iv 4,iv 4] = some (.bool false,[]):=lim_of_eval (n:=30) (by kernel_rfl)
theorem stK0 : lim F 156 [cylC,.borM [true,true] [] [],.agg [iv 1,iv 0],iv 1,iv 2] = some (.tuple [],[.borM [true,true] [[iv 1,iv 1],[iv 2,iv 0],[iv 3,iv 1]] [iv 1,iv 1,iv 1]]):=lim_of_eval (n:=30) (by kernel_rfl)
theorem stK1 : lim F 156 [cylC,.borM [true,true] [] [],.agg [iv 2,iv 0],iv 1,iv 2] = some (.tuple [],[.borM [true,true] [[iv 2,iv 1],[iv 3,iv 0],[iv 4,iv 1]] [iv 1,iv 1,iv 1]]):=lim_of_eval (n:=30) (by kernel_rfl)
theorem stK2 : lim F 156 [cylC,.borM [true,true] [] [],.agg [iv 2,iv 1],iv 1,iv 2] = some (.tuple [],[.borM [true,true] [[iv 2,iv 2],[iv 3,iv 1],[iv 4,iv 2]] [iv 1,iv 1,iv 1]]):=lim_of_eval (n:=30) (by kernel_rfl)
theorem stK3 : lim F 156 [cylC,.borM [true,true] [] [],.agg [iv 2,iv 2],iv 1,iv 2] = some (.tuple [],[.borM [true,true] [[iv 3,iv 2]] [iv 1]]):=lim_of_eval (n:=30) (by kernel_rfl)
theorem stK4 : lim F 156 [cylC,.borM [true,true] [[iv 3,iv 2]] [iv 1],.agg [iv 3,iv 1],iv 1,iv 2] = some (.tuple [],[.borM [true,true] [[iv 0,iv 2],[iv 3,iv 2],[iv 4,iv 1]] [iv 1,iv 2,iv 1]]):=lim_of_eval (n:=30) (by kernel_rfl)
theorem stK5 : lim F 156 [cylC,.borM [true,true] [[iv 0,iv 2],[iv 3,iv 2],[iv 4,iv 1]] [iv 1,iv 2,iv 1],.agg [iv 4,iv 2],iv 1,iv 2] = some (.tuple [],[.borM [true,true] [[iv 0,iv 2],[iv 3,iv 2],[iv 4,iv 1]] [iv 2,iv 2,iv 1]]):=lim_of_eval (n:=30) (by kernel_rfl)
theorem stK6 : lim F 156 [cylC,.borM [true,true] [[iv 3,iv 2]] [iv 1],.agg [iv 4,iv 2],iv 1,iv 2] = some (.tuple [],[.borM [true,true] [[iv 0,iv 2],[iv 3,iv 2]] [iv 1,iv 1]]):=lim_of_eval (n:=30) (by kernel_rfl)
theorem stK7 : lim F 156 [cylC,.borM [true,true] [[iv 0,iv 2],[iv 3,iv 2]] [iv 1,iv 1],.agg [iv 3,iv 1],iv 1,iv 2] = some (.tuple [],[.borM [true,true] [[iv 0,iv 2],[iv 3,iv 2],[iv 4,iv 1]] [iv 2,iv 2,iv 1]]):=lim_of_eval (n:=30) (by kernel_rfl)
theorem stK8 : lim F 156 [cylC,.borM [true,true] [] [],.agg [iv 3,iv 1],iv 1,iv 2] = some (.tuple [],[.borM [true,true] [[iv 0,iv 2],[iv 3,iv 2],[iv 4,iv 1]] [iv 1,iv 1,iv 1]]):=lim_of_eval (n:=30) (by kernel_rfl)
theorem stK9 : lim F 156 [cylC,.borM [true,true] [[iv 0,iv 2],[iv 3,iv 2],[iv 4,iv 1]] [iv 1,iv 1,iv 1],.agg [iv 2,iv 2],iv 1,iv 2] = some (.tuple [],[.borM [true,true] [[iv 0,iv 2],[iv 3,iv 2],[iv 4,iv 1]] [iv 1,iv 2,iv 1]]):=lim_of_eval (n:=30) (by kernel_rfl)
theorem stK10 : lim F 156 [cylC,.borM [true,true] [[iv 0,iv 2],[iv 3,iv 2],[iv 4,iv 1]] [iv 1,iv 1,iv 1],.agg [iv 4,iv 2],iv 1,iv 2] = some (.tuple [],[.borM [true,true] [[iv 0,iv 2],[iv 3,iv 2],[iv 4,iv 1]] [iv 2,iv 1,iv 1]]):=lim_of_eval (n:=30) (by kernel_rfl)
theorem stK11 : lim F 156 [cylC,.borM [true,true] [[iv 0,iv 2],[iv 3,iv 2],[iv 4,iv 1]] [iv 2,iv 1,iv 1],.agg [iv 2,iv 2],iv 1,iv 2] = some (.tuple [],[.borM [true,true] [[iv 0,iv 2],[iv 3,iv 2],[iv 4,iv 1]] [iv 2,iv 2,iv 1]]):=lim_of_eval (n:=30) (by kernel_rfl)
theorem stK12 : lim F 156 [cylC,.borM [true,true] [] [],.agg [iv 4,iv 2],iv 1,iv 2] = some (.tuple [],[.borM [true,true] [[iv 0,iv 2]] [iv 1]]):=lim_of_eval (n:=30) (by kernel_rfl)
theorem stK13 : lim F 156 [cylC,.borM [true,true] [[iv 0,iv 2]] [iv 1],.agg [iv 2,iv 2],iv 1,iv 2] = some (.tuple [],[.borM [true,true] [[iv 0,iv 2],[iv 3,iv 2]] [iv 1,iv 1]]):=lim_of_eval (n:=30) (by kernel_rfl)
theorem stK14 : lim F 156 [cylC,.borM [true,true] [[iv 0,iv 2]] [iv 1],.agg [iv 3,iv 1],iv 1,iv 2] = some (.tuple [],[.borM [true,true] [[iv 0,iv 2],[iv 3,iv 2],[iv 4,iv 1]] [iv 2,iv 1,iv 1]]):=lim_of_eval (n:=30) (by kernel_rfl)
theorem stK15 : lim F 156 [cylC,.borM [true,true] [] [],.agg [iv 0,iv 2],iv 2,iv 2] = some (.tuple [],[.borM [true,true] [[iv 1,iv 2]] [iv 2]]):=lim_of_eval (n:=30) (by kernel_rfl)
def endsM : Memo:=[((155,[cylC,iv 0,iv 0]),(.bool false,[])),
 ((155,[cylC,iv 0,iv 1]),(.bool true,[])),
 ((155,[cylC,iv 0,iv 2]),(.bool false,[])),
 ((155,[cylC,iv 0,iv 3]),(.bool false,[])),
 ((155,[cylC,iv 0,iv 4]),(.bool false,[])),
 ((155,[cylC,iv 1,iv 1]),(.bool false,[])),
 ((155,[cylC,iv 1,iv 2]),(.bool true,[])),
 ((155,[cylC,iv 1,iv 3]),(.bool false,[])),
 ((155,[cylC,iv 2,iv 2]),(.bool true,[])),
 ((155,[cylC,iv 2,iv 3]),(.bool false,[])),
 ((155,[cylC,iv 2,iv 4]),(.bool false,[])),
 ((155,[cylC,iv 3,iv 2]),(.bool true,[])),
 ((155,[cylC,iv 3,iv 3]),(.bool true,[])),
 ((155,[cylC,iv 3,iv 4]),(.bool true,[])),
 ((155,[cylC,iv 4,iv 0]),(.bool true,[])),
 ((155,[cylC,iv 4,iv 3]),(.bool false,[])),
 ((155,[cylC,iv 4,iv 4]),(.bool false,[])),
 ((156,[cylC,.borM [true,true] [] [],.agg [iv 1,iv 0],iv 1,iv 2]),(.tuple [],[.borM [true,true] [[iv 1,iv 1],[iv 2,iv 0],[iv 3,iv 1]] [iv 1,iv 1,iv 1]])),
 ((156,[cylC,.borM [true,true] [] [],.agg [iv 2,iv 0],iv 1,iv 2]),(.tuple [],[.borM [true,true] [[iv 2,iv 1],[iv 3,iv 0],[iv 4,iv 1]] [iv 1,iv 1,iv 1]])),
 ((156,[cylC,.borM [true,true] [] [],.agg [iv 2,iv 1],iv 1,iv 2]),(.tuple [],[.borM [true,true] [[iv 2,iv 2],[iv 3,iv 1],[iv 4,iv 2]] [iv 1,iv 1,iv 1]])),
 ((156,[cylC,.borM [true,true] [] [],.agg [iv 2,iv 2],iv 1,iv 2]),(.tuple [],[.borM [true,true] [[iv 3,iv 2]] [iv 1]])),
 ((156,[cylC,.borM [true,true] [[iv 3,iv 2]] [iv 1],.agg [iv 3,iv 1],iv 1,iv 2]),(.tuple [],[.borM [true,true] [[iv 0,iv 2],[iv 3,iv 2],[iv 4,iv 1]] [iv 1,iv 2,iv 1]])),
 ((156,[cylC,.borM [true,true] [[iv 0,iv 2],[iv 3,iv 2],[iv 4,iv 1]] [iv 1,iv 2,iv 1],.agg [iv 4,iv 2],iv 1,iv 2]),(.tuple [],[.borM [true,true] [[iv 0,iv 2],[iv 3,iv 2],[iv 4,iv 1]] [iv 2,iv 2,iv 1]])),
 ((156,[cylC,.borM [true,true] [[iv 3,iv 2]] [iv 1],.agg [iv 4,iv 2],iv 1,iv 2]),(.tuple [],[.borM [true,true] [[iv 0,iv 2],[iv 3,iv 2]] [iv 1,iv 1]])),
 ((156,[cylC,.borM [true,true] [[iv 0,iv 2],[iv 3,iv 2]] [iv 1,iv 1],.agg [iv 3,iv 1],iv 1,iv 2]),(.tuple [],[.borM [true,true] [[iv 0,iv 2],[iv 3,iv 2],[iv 4,iv 1]] [iv 2,iv 2,iv 1]])),
 ((156,[cylC,.borM [true,true] [] [],.agg [iv 3,iv 1],iv 1,iv 2]),(.tuple [],[.borM [true,true] [[iv 0,iv 2],[iv 3,iv 2],[iv 4,iv 1]] [iv 1,iv 1,iv 1]])),
 ((156,[cylC,.borM [true,true] [[iv 0,iv 2],[iv 3,iv 2],[iv 4,iv 1]] [iv 1,iv 1,iv 1],.agg [iv 2,iv 2],iv 1,iv 2]),(.tuple [],[.borM [true,true] [[iv 0,iv 2],[iv 3,iv 2],[iv 4,iv 1]] [iv 1,iv 2,iv 1]])),
 ((156,[cylC,.borM [true,true] [[iv 0,iv 2],[iv 3,iv 2],[iv 4,iv 1]] [iv 1,iv 1,iv 1],.agg [iv 4,iv 2],iv 1,iv 2]),(.tuple [],[.borM [true,true] [[iv 0,iv 2],[iv 3,iv 2],[iv 4,iv 1]] [iv 2,iv 1,iv 1]])),
 ((156,[cylC,.borM [true,true] [[iv 0,iv 2],[iv 3,iv 2],[iv 4,iv 1]] [iv 2,iv 1,iv 1],.agg [iv 2,iv 2],iv 1,iv 2]),(.tuple [],[.borM [true,true] [[iv 0,iv 2],[iv 3,iv 2],[iv 4,iv 1]] [iv 2,iv 2,iv 1]])),
 ((156,[cylC,.borM [true,true] [] [],.agg [iv 4,iv 2],iv 1,iv 2]),(.tuple [],[.borM [true,true] [[iv 0,iv 2]] [iv 1]])),
 ((156,[cylC,.borM [true,true] [[iv 0,iv 2]] [iv 1],.agg [iv 2,iv 2],iv 1,iv 2]),(.tuple [],[.borM [true,true] [[iv 0,iv 2],[iv 3,iv 2]] [iv 1,iv 1]])),
 ((156,[cylC,.borM [true,true] [[iv 0,iv 2]] [iv 1],.agg [iv 3,iv 1],iv 1,iv 2]),(.tuple [],[.borM [true,true] [[iv 0,iv 2],[iv 3,iv 2],[iv 4,iv 1]] [iv 2,iv 1,iv 1]])),
 ((156,[cylC,.borM [true,true] [] [],.agg [iv 0,iv 2],iv 2,iv 2]),(.tuple [],[.borM [true,true] [[iv 1,iv 2]] [iv 2]]))]
theorem endsM_ok (x) (hx : x ∈ endsM) : lim F x.1.1 x.1.2 = some x.2:=by
 simp only [endsM,List.mem_cons,List.not_mem_nil,or_false] at hx;rcases hx with rfl | rfl | rfl | rfl | rfl | rfl | rfl | rfl | rfl | rfl | rfl | rfl | rfl | rfl | rfl | rfl | rfl | rfl | rfl | rfl | rfl | rfl | rfl | rfl | rfl | rfl | rfl | rfl | rfl | rfl | rfl | rfl | rfl
 ·exact wvK0
 ·exact wvK1
 ·exact wvK2
 ·exact wvK3
 ·exact wvK4
 ·exact wvK5
 ·exact wvK6
 ·exact wvK7
 ·exact wvK8
 ·exact wvK9
 ·exact wvK10
 ·exact wvK11
 ·exact wvK12
 ·exact wvK13
 ·exact wvK14
 ·exact wvK15
 ·exact wvK16
 ·exact stK0
 ·exact stK1
 ·exact stK2
 ·exact stK3
 ·exact stK4
 ·exact stK5
 ·exact stK6
 ·exact stK7
 ·exact stK8
 ·exact stK9
 ·exact stK10
 ·exact stK11
 ·exact stK12
 ·exact stK13
 ·exact stK14
 ·exact stK15
theorem endsK : lim F 132 [cylC,iv 2] = some (.ownM [true,true] [[iv 1,iv 2]] [iv 2],[]):=lim_memo (n:=60) (m:=60) (t:=endsM) rfl endsM_ok (by kernel_rfl)
def askedM : Memo:=[((132,[cylC,iv 2]),(.ownM [true,true] [[iv 1,iv 2]] [iv 2],[]))]
theorem askedM_ok (x) (hx : x ∈ askedM) : lim F x.1.1 x.1.2 = some x.2:=by
 rw [List.mem_singleton.1 hx];exact endsK
theorem askedK : lim F 99 [.agg [iv 4,beltC],.list 1 [iv 8,iv 2,iv 2,iv (-1),iv 1],iv 2] = some (.tuple [.ownM [true,true] [[iv 1,iv 2]] [iv 2],iv 0],[]):=lim_memo (n:=60) (m:=60) (t:=askedM) rfl askedM_ok (by kernel_rfl)
def waysM : Memo:=[((99,[.agg [iv 4,beltC],.list 1 [iv 8,iv 2,iv 2,iv (-1),iv 1],iv 2]),(.tuple [.ownM [true,true] [[iv 1,iv 2]] [iv 2],iv 0],[]))]
theorem waysM_ok (x) (hx : x ∈ waysM) : lim F x.1.1 x.1.2 = some x.2:=by
 rw [List.mem_singleton.1 hx];exact askedK
theorem waysK : lim F 63 [.agg [iv 4,beltC],.list 1 [iv 8,iv 2,iv 2,iv (-1),iv 1],iv 2] = some (.tuple [iv 2,iv 0],[]):=lim_memo (n:=60) (m:=60) (t:=waysM) rfl waysM_ok (by kernel_rfl)
end Go.Abs
set_option linter.all false
namespace Go.Abs
set_option maxRecDepth 100000
set_option maxHeartbeats 0
theorem weaveK : lim F 62 [.agg [iv 4,beltC],iv 0,.list 1 [iv 1,iv 1,iv 0,iv 2]] = some (.tuple [.own 1 [iv 1,iv 8,iv 2,iv 2],iv 4,iv 0],[]):=lim_of_eval (n:=60) (by kernel_rfl)
theorem movedK : lim F 26 [.agg [iv 4,beltC]] = some (.tuple [.own 1 [iv 1],iv 0],[]):=lim_of_eval (n:=60) (by kernel_rfl)
def chainM : Memo:=[((62,[.agg [iv 4,beltC],iv 0,.list 1 [iv 1,iv 1,iv 0,iv 2]]),(.tuple [.own 1 [iv 1,iv 8,iv 2,iv 2],iv 4,iv 0],[])),
 ((26,[.agg [iv 4,beltC]]),(.tuple [.own 1 [iv 1],iv 0],[])),
 ((63,[.agg [iv 4,beltC],.list 1 [iv 8,iv 2,iv 2,iv (-1),iv 1],iv 2]),(.tuple [iv 2,iv 0],[]))]
theorem chainM_ok (x) (hx : x ∈ chainM) : lim F x.1.1 x.1.2 = some x.2:=by
 simp only [chainM,List.mem_cons,List.not_mem_nil,or_false] at hx;rcases hx with rfl | rfl | rfl
 ·exact weaveK
 ·exact movedK
 ·exact waysK
theorem pubChain_ok : lim F 28 [] = some (.bool true,[]):=lim_memo (n:=60) (m:=60) (t:=chainM) rfl chainM_ok (by kernel_rfl)
end Go.Abs
