/-
 Several texts: Memo, KF, KnL, KnC, KB, KnT, Known.
-/
import Derived.Test.YtkjlmfabhejbnaaDoorLim
import Derived.Test.YtkjlmfabhejbnaaDoorRel
import Derived.Test.YtkjlmfabhejbnaaDoorKL
import Derived.KernelRfl
import Derived.Test.YtkjlmfabhejbnaaDoorFns
import Derived.Test.YtkjlmfabhejbnaaDoorK
set_option linter.all false
namespace Go.Abs
abbrev Memo := List ((Nat × List AV) × (AV × List AV))
def memoFind (f : Nat) (args : List AV) : Memo → Option (AV × List AV)
 | [] => none
 | x :: t => if x.1.1 == f && AV.beqL x.1.2 args then some x.2 else memoFind f args t
noncomputable def memoCall (F : Nat → Option AFn) (n : Nat) (t : Memo) : CallF := fun f args => match memoFind f args t with
 | some r => some r
 | none => evalCall F n f args
theorem memoFind_mem {f : Nat} {args : List AV} {r : AV × List AV} : ∀ {t : Memo}, memoFind f args t = some r → ((f, args), r) ∈ t
 | [], h => by simp [memoFind] at h
 | ((g, xs), q) :: t, h => by
  simp only [memoFind] at h;split at h
  ·rename_i hc
   simp only [Bool.and_eq_true, beq_iff_eq] at hc;simp only [Option.some.injEq] at h;obtain ⟨rfl, h2⟩ := hc;rw [AV.beqL_eq _ _ h2, h];simp
  ·exact List.mem_cons_of_mem _ (memoFind_mem h)
theorem memo_le {F : Nat → Option AFn} {n : Nat} {t : Memo} (ht : ∀ x ∈ t, lim F x.1.1 x.1.2 = some x.2) : (memoCall F n t).le (lim F) := by
 intro f args r h;unfold memoCall at h;split at h
 ·rename_i q hq
  simp only [Option.some.injEq] at h;subst h;exact ht _ (memoFind_mem hq)
 ·exact lim_of_eval h
theorem lim_memo {F : Nat → Option AFn} {n m f : Nat} {t : Memo} {fn : AFn} {args : List AV} {r : AV × List AV} (hf : F f = some fn) (ht : ∀ x ∈ t, lim F x.1.1 x.1.2 = some x.2) (h : evalFn (memoCall F n t) m fn args = some r) : lim F f args = some r :=
 lim_intro (n := m) hf (evalFn_mono (memo_le ht) (Nat.le_refl m) h)
end Go.Abs
set_option linter.all false
namespace Go.Abs
set_option maxRecDepth 100000
set_option maxHeartbeats 0
def fwD : List FloatT := [⟨0, 0, 3, true⟩, ⟨0, 3, 3, false⟩, ⟨1, 0, 3, false⟩, ⟨1, 3, 3, true⟩, ⟨2, 0, 1000, false⟩, ⟨3, 0, 1, true⟩, ⟨3, 1, 1, false⟩, ⟨3, 2, 1, true⟩, ⟨3, 3, 1, false⟩, ⟨3, 4, 1, true⟩, ⟨3, 5, 1, false⟩]
theorem fwF : lim F 50 [.agg [iv 6, .list 1 [iv 7, iv 56, iv 0, iv 21]], iv 1] = some (.func 70 [.iptr (.agg [iv 4]) 0, .iptr (.agg [.meth 68 (.agg [iv 6, .list 1 [iv 7, iv 56, iv 0, iv 21]])]) 0, .iptr (.agg [iv 1]) 0], []) := lim_of_eval (n := 40) (by kernel_rfl)
theorem fwG : lim F 70 [.ylog none [], .iptr (.agg [iv 4]) 0, .iptr (.agg [.meth 68 (.agg [iv 6, .list 1 [iv 7, iv 56, iv 0, iv 21]])]) 0, .iptr (.agg [iv 1]) 0] = some (.tuple [], [.ylog none (fwD.map fun f => [f.av])]) := lim_of_eval (n := 60) (by kernel_rfl)
theorem fwK : lim F 70 [.ylog (some 0) (fwD.map fun f => [f.av]), .iptr (.agg [iv 4]) 0, .iptr (.agg [.meth 68 (.agg [iv 6, .list 1 [iv 7, iv 56, iv 0, iv 21]])]) 0, .iptr (.agg [iv 1]) 0] = some (.tuple [], [.ylog (some 0) []]) := lim_of_eval (n := 60) (by kernel_rfl)
end Go.Abs
namespace Go.Abs
set_option maxRecDepth 100000
set_option maxHeartbeats 0
def fhD : List FloatT := [⟨1, 0, 2, false⟩, ⟨3, 0, 2, true⟩, ⟨0, 1, 1, true⟩, ⟨1, 1, 3, false⟩, ⟨1, 2, 2, false⟩, ⟨3, 2, 2, true⟩, ⟨1, 3, 1, true⟩, ⟨2, 3, 3, false⟩, ⟨0, 4, 1, false⟩, ⟨1, 4, 1, true⟩, ⟨2, 4, 1, false⟩, ⟨3, 4, 1, true⟩, ⟨1, 5, 1, true⟩, ⟨2, 5, 3, false⟩]
theorem fhF : lim F 50 [.agg [iv 6, .list 1 [iv 7, iv 56, iv 0, iv 21]], iv 2] = some (.func 70 [.iptr (.agg [iv 6]) 0, .iptr (.agg [.meth 69 (.agg [iv 6, .list 1 [iv 7, iv 56, iv 0, iv 21]])]) 0, .iptr (.agg [iv 2]) 0], []) := lim_of_eval (n := 40) (by kernel_rfl)
theorem fhG : lim F 70 [.ylog none [], .iptr (.agg [iv 6]) 0, .iptr (.agg [.meth 69 (.agg [iv 6, .list 1 [iv 7, iv 56, iv 0, iv 21]])]) 0, .iptr (.agg [iv 2]) 0] = some (.tuple [], [.ylog none (fhD.map fun f => [f.av])]) := lim_of_eval (n := 60) (by kernel_rfl)
theorem fhK : lim F 70 [.ylog (some 0) (fhD.map fun f => [f.av]), .iptr (.agg [iv 6]) 0, .iptr (.agg [.meth 69 (.agg [iv 6, .list 1 [iv 7, iv 56, iv 0, iv 21]])]) 0, .iptr (.agg [iv 2]) 0] = some (.tuple [], [.ylog (some 0) []]) := lim_of_eval (n := 60) (by kernel_rfl)
end Go.Abs
set_option linter.all false
namespace Go.Abs
set_option maxRecDepth 100000
theorem longest_known : lim F 26 [.agg [iv 6, .list 1 [iv 7, iv 56, iv 0, iv 21]]] = some (.tuple [.agg [iv 1000, iv 3, iv 2, iv 3], iv 0], []) := by
 have hc : lim F 46 [.agg [iv 6, .list 1 [iv 7, iv 56, iv 0, iv 21]]] = some (iv 0, []) := lim_of_eval (n := 40) (by kernel_rfl)
 have h := longest_of 6 4 [iv 7, iv 56, iv 0, iv 21] fwD fhD hc fwF fhF fwG fhG fwK fhK;rw [show mxF false fwD = 1000 from rfl, show mxF true fwD = 3 from rfl, show mxF true fhD = 2 from rfl, show mxF false fhD = 3 from rfl] at h
 exact h
end Go.Abs
set_option linter.all false
namespace Go.Abs
set_option maxRecDepth 100000
set_option maxHeartbeats 0
theorem floats_known : lim F 25 [.agg [iv 6, .list 1 [iv 7, iv 56, iv 0, iv 21]], iv 1, iv 2] = some (.tuple [.own 4 [.agg [iv 0, iv 0, iv 3, .bool true], .agg [iv 0, iv 3, iv 3, .bool false], .agg [iv 1, iv 0, iv 3, .bool false], .agg [iv 1, iv 3, iv 3, .bool true], .agg [iv 2, iv 0, iv 1000, .bool false]], iv 0], []) := lim_of_eval (n := 80) (by kernel_rfl)
theorem proof_known : lim F 28 [.agg [iv 6, .list 1 [iv 7, iv 56, iv 0, iv 21]], iv 2] = some (.tuple [.own 4 [.agg [iv 0, iv 0, iv 3, .bool true], .agg [iv 0, iv 3, iv 3, .bool false], .agg [iv 1, iv 0, iv 3, .bool false], .agg [iv 1, iv 3, iv 3, .bool true], .agg [iv 2, iv 0, iv 3, .bool false], .agg [iv 2, iv 3, iv 3, .bool false]], iv 0], []) := lim_of_eval (n := 80) (by kernel_rfl)
end Go.Abs
set_option linter.all false
namespace Go.Abs
set_option maxRecDepth 100000
set_option maxHeartbeats 0
def bA0 : List AV := [.bor [iv 0, iv 0, iv 6, iv 2, .bool false, .const (.map none)]]
def bR0 : AV × List AV := (.tuple [.int .i64 9, .int .i64 2], [.bor [.int .i64 0, .int .i64 0, .int .i64 6, .int .i64 2, .bool false, .ownM [true, true, true, false] [[.int .i64 1, .int .i64 2, .int .i64 2, .bool false], [.int .i64 1, .int .i64 1, .int .i64 2, .bool true], [.int .i64 2, .int .i64 1, .int .i64 2, .bool false], [.int .i64 1, .int .i64 1, .int .i64 2, .bool false], [.int .i64 2, .int .i64 2, .int .i64 2, .bool true], [.int .i64 3, .int .i64 1, .int .i64 2, .bool true], [.int .i64 4, .int .i64 2, .int .i64 0, .bool false]] [.int .i64 1, .int .i64 1, .int .i64 1, .int .i64 1, .int .i64 1, .int .i64 1, .int .i64 2]]])
theorem bind0 : lim F 51 bA0 = some bR0 := lim_of_eval (n := 60) (by kernel_rfl)
end Go.Abs
namespace Go.Abs
set_option maxRecDepth 100000
set_option maxHeartbeats 0
def bA21 : List AV := [.bor [iv 21, iv 0, iv 6, iv 2, .bool false, .const (.map none)]]
def bR21 : AV × List AV := (.tuple [.int .i64 21, .int .i64 0], [.bor [.int .i64 21, .int .i64 0, .int .i64 6, .int .i64 2, .bool false, .ownM [true, true, true, false] [[.int .i64 1, .int .i64 2, .int .i64 2, .bool false], [.int .i64 1, .int .i64 1, .int .i64 2, .bool true], [.int .i64 2, .int .i64 1, .int .i64 2, .bool false], [.int .i64 1, .int .i64 1, .int .i64 2, .bool false], [.int .i64 2, .int .i64 2, .int .i64 2, .bool true], [.int .i64 3, .int .i64 1, .int .i64 2, .bool true], [.int .i64 4, .int .i64 2, .int .i64 0, .bool false], [.int .i64 1, .int .i64 1, .int .i64 1, .bool true], [.int .i64 2, .int .i64 2, .int .i64 1, .bool false], [.int .i64 1, .int .i64 1, .int .i64 1, .bool false], [.int .i64 1, .int .i64 2, .int .i64 1, .bool true], [.int .i64 2, .int .i64 1, .int .i64 1, .bool true], [.int .i64 3, .int .i64 1, .int .i64 1, .bool false], [.int .i64 1, .int .i64 2, .int .i64 1, .bool false], [.int .i64 2, .int .i64 1, .int .i64 1, .bool false], [.int .i64 3, .int .i64 2, .int .i64 1, .bool true], [.int .i64 4, .int .i64 1, .int .i64 1, .bool true]] [.int .i64 0, .int .i64 0, .int .i64 0, .int .i64 0, .int .i64 0, .int .i64 0, .int .i64 1, .int .i64 0, .int .i64 1, .int .i64 0, .int .i64 1, .int .i64 0, .int .i64 0, .int .i64 0, .int .i64 0, .int .i64 1, .int .i64 0]]])
theorem bind21 : lim F 51 bA21 = some bR21 := lim_of_eval (n := 60) (by kernel_rfl)
end Go.Abs
namespace Go.Abs
set_option maxRecDepth 100000
set_option maxHeartbeats 0
def bA56 : List AV := [.bor [iv 56, iv 0, iv 6, iv 2, .bool false, .const (.map none)]]
def bR56 : AV × List AV := (.tuple [.int .i64 25, .int .i64 2], [.bor [.int .i64 56, .int .i64 0, .int .i64 6, .int .i64 2, .bool false, .ownM [true, true, true, false] [[.int .i64 1, .int .i64 2, .int .i64 2, .bool false], [.int .i64 1, .int .i64 1, .int .i64 2, .bool true], [.int .i64 2, .int .i64 1, .int .i64 2, .bool false], [.int .i64 1, .int .i64 1, .int .i64 2, .bool false], [.int .i64 2, .int .i64 2, .int .i64 2, .bool true], [.int .i64 3, .int .i64 1, .int .i64 2, .bool true], [.int .i64 4, .int .i64 2, .int .i64 0, .bool false], [.int .i64 1, .int .i64 1, .int .i64 1, .bool true], [.int .i64 2, .int .i64 2, .int .i64 1, .bool false], [.int .i64 1, .int .i64 1, .int .i64 1, .bool false], [.int .i64 1, .int .i64 2, .int .i64 1, .bool true], [.int .i64 2, .int .i64 1, .int .i64 1, .bool true], [.int .i64 3, .int .i64 1, .int .i64 1, .bool false], [.int .i64 1, .int .i64 2, .int .i64 1, .bool false], [.int .i64 2, .int .i64 1, .int .i64 1, .bool false], [.int .i64 3, .int .i64 2, .int .i64 1, .bool true], [.int .i64 4, .int .i64 1, .int .i64 1, .bool true]] [.int .i64 1, .int .i64 1, .int .i64 1, .int .i64 1, .int .i64 1, .int .i64 1, .int .i64 1, .int .i64 0, .int .i64 1, .int .i64 1, .int .i64 0, .int .i64 1, .int .i64 1, .int .i64 1, .int .i64 1, .int .i64 1, .int .i64 1]]])
theorem bind56 : lim F 51 bA56 = some bR56 := lim_of_eval (n := 60) (by kernel_rfl)
end Go.Abs
namespace Go.Abs
set_option maxRecDepth 100000
set_option maxHeartbeats 0
def bA63 : List AV := [.bor [iv 0, iv 63, iv 6, iv 2, .bool false, .const (.map none)]]
def bR63 : AV × List AV := (.tuple [.int .i64 0, .int .i64 1048576], [.bor [.int .i64 0, .int .i64 63, .int .i64 6, .int .i64 2, .bool true, .ownM [true, true, true, false] [[.int .i64 1, .int .i64 1, .int .i64 1, .bool false], [.int .i64 1, .int .i64 2, .int .i64 1, .bool true], [.int .i64 2, .int .i64 1, .int .i64 1, .bool true], [.int .i64 3, .int .i64 2, .int .i64 1, .bool false], [.int .i64 1, .int .i64 2, .int .i64 1, .bool false], [.int .i64 1, .int .i64 1, .int .i64 1, .bool true], [.int .i64 2, .int .i64 1, .int .i64 1, .bool false], [.int .i64 2, .int .i64 2, .int .i64 1, .bool true], [.int .i64 3, .int .i64 1, .int .i64 1, .bool true], [.int .i64 4, .int .i64 1, .int .i64 1, .bool false], [.int .i64 1, .int .i64 1, .int .i64 2, .bool true], [.int .i64 2, .int .i64 2, .int .i64 2, .bool false], [.int .i64 1, .int .i64 1, .int .i64 2, .bool false], [.int .i64 1, .int .i64 2, .int .i64 2, .bool true], [.int .i64 2, .int .i64 1, .int .i64 2, .bool true], [.int .i64 3, .int .i64 1, .int .i64 2, .bool false], [.int .i64 4, .int .i64 2, .int .i64 0, .bool true], [.int .i64 5, .int .i64 1, .int .i64 0, .bool true]] [.int .i64 0, .int .i64 0, .int .i64 0, .int .i64 1048576, .int .i64 1048576, .int .i64 0, .int .i64 1048576, .int .i64 0, .int .i64 1048576, .int .i64 1048576, .int .i64 0, .int .i64 1048576, .int .i64 0, .int .i64 0, .int .i64 0, .int .i64 1048576, .int .i64 1048576, .int .i64 1048576]]])
theorem bind63 : lim F 51 bA63 = some bR63 := lim_of_eval (n := 60) (by kernel_rfl)
end Go.Abs
namespace Go.Abs
set_option maxRecDepth 100000
set_option maxHeartbeats 0
def bA7 : List AV := [.bor [iv 7, iv 0, iv 6, iv 2, .bool false, .const (.map none)]]
def bR7 : AV × List AV := (.tuple [.int .i64 11, .int .i64 2], [.bor [.int .i64 7, .int .i64 0, .int .i64 6, .int .i64 2, .bool false, .ownM [true, true, true, false] [[.int .i64 1, .int .i64 2, .int .i64 2, .bool false], [.int .i64 1, .int .i64 1, .int .i64 2, .bool true], [.int .i64 2, .int .i64 1, .int .i64 2, .bool false], [.int .i64 1, .int .i64 1, .int .i64 2, .bool false], [.int .i64 2, .int .i64 2, .int .i64 2, .bool true], [.int .i64 3, .int .i64 1, .int .i64 2, .bool true], [.int .i64 4, .int .i64 2, .int .i64 0, .bool false]] [.int .i64 0, .int .i64 0, .int .i64 0, .int .i64 0, .int .i64 1, .int .i64 1, .int .i64 2]]])
theorem bind7 : lim F 51 bA7 = some bR7 := lim_of_eval (n := 60) (by kernel_rfl)
end Go.Abs
set_option linter.all false
namespace Go.Abs
set_option maxRecDepth 100000
set_option maxHeartbeats 0
def knownT : Memo := [
 ((25, [.agg [iv 6, .list 1 [iv 7, iv 56, iv 0, iv 21]], iv 1, iv 2]), (.tuple [.own 4 [.agg [iv 0, iv 0, iv 3, .bool true], .agg [iv 0, iv 3, iv 3, .bool false], .agg [iv 1, iv 0, iv 3, .bool false], .agg [iv 1, iv 3, iv 3, .bool true], .agg [iv 2, iv 0, iv 1000, .bool false]], iv 0], [])),
 ((26, [.agg [iv 6, .list 1 [iv 7, iv 56, iv 0, iv 21]]]), (.tuple [.agg [iv 1000, iv 3, iv 2, iv 3], iv 0], [])),
 ((28, [.agg [iv 6, .list 1 [iv 7, iv 56, iv 0, iv 21]], iv 2]), (.tuple [.own 4 [.agg [iv 0, iv 0, iv 3, .bool true], .agg [iv 0, iv 3, iv 3, .bool false], .agg [iv 1, iv 0, iv 3, .bool false], .agg [iv 1, iv 3, iv 3, .bool true], .agg [iv 2, iv 0, iv 3, .bool false], .agg [iv 2, iv 3, iv 3, .bool false]], iv 0], [])),
 ((51, bA7), bR7),
 ((51, bA56), bR56),
 ((51, bA0), bR0),
 ((51, bA21), bR21),
 ((51, bA63), bR63)]
theorem knownT_ok (x) (hx : x ∈ knownT) : lim F x.1.1 x.1.2 = some x.2 := by
 simp only [knownT, List.mem_cons, List.not_mem_nil, or_false] at hx;rcases hx with rfl | rfl | rfl | rfl | rfl | rfl | rfl | rfl
 ·exact floats_known
 ·exact longest_known
 ·exact proof_known
 ·exact bind7
 ·exact bind56
 ·exact bind0
 ·exact bind21
 ·exact bind63
theorem bind_known : lim F 27 [.agg [iv 6, .list 1 [iv 7, iv 56, iv 0, iv 21]], .list 1 [iv 0, iv 0, iv 0, iv 0], iv 2] = some (.tuple [.agg [iv 6, .own 1 [iv 11, iv 25, iv 9, iv 21]], iv 6, iv 0], []) :=
 lim_memo (n := 60) (m := 60) (t := knownT) rfl knownT_ok (by kernel_rfl)
theorem never_known : lim F 27 [.agg [iv 6, .list 1 [iv 7, iv 56, iv 0, iv 21]], .list 1 [iv 0, iv 0, iv 63, iv 0], iv 2] = some (.tuple [.agg [iv 0, .own 1 []], iv 0, iv 9], []) :=
 lim_memo (n := 60) (m := 60) (t := knownT) rfl knownT_ok (by kernel_rfl)
end Go.Abs
set_option linter.all false
namespace Go.Abs
set_option maxRecDepth 100000
set_option maxHeartbeats 0
theorem least_known : lim F 29 [.agg [iv 6, .list 1 [iv 21, iv 42]]] = some (.tuple [iv 2, iv 2, iv 0], []) := lim_of_eval (n := 60) (by kernel_rfl)
theorem shift_known : lim F 20 [.agg [iv 6, .list 1 [iv 21, iv 42]], iv 0, iv 1] = some (.tuple [.agg [iv 6, .own 1 [iv 42, iv 21]], iv 0], []) := lim_of_eval (n := 60) (by kernel_rfl)
theorem reflect_known : lim F 30 [.agg [iv 4, .list 1 [iv 3]]] = some (.tuple [.agg [iv 6, .own 1 [iv 35]], iv 0], []) := lim_of_eval (n := 60) (by kernel_rfl)
theorem lay_known : lim F 8 [.agg [iv 2, .list 1 [iv 1, iv 2]], .agg [iv 4, .list 1 [iv 15, iv 15]], .agg [iv 4, .list 1 [iv 6, iv 6]]] = some (.tuple [.agg [iv 4, .own 1 [iv 7, iv 14]], iv 0], []) := lim_of_eval (n := 60) (by kernel_rfl)
def knownU : Memo := ((27, [.agg [iv 6, .list 1 [iv 7, iv 56, iv 0, iv 21]], .list 1 [iv 0, iv 0, iv 0, iv 0], iv 2]), (.tuple [.agg [iv 6, .own 1 [iv 11, iv 25, iv 9, iv 21]], iv 6, iv 0], [])) ::
 ((27, [.agg [iv 6, .list 1 [iv 7, iv 56, iv 0, iv 21]], .list 1 [iv 0, iv 0, iv 63, iv 0], iv 2]), (.tuple [.agg [iv 0, .own 1 []], iv 0, iv 9], [])) ::
 ((29, [.agg [iv 6, .list 1 [iv 21, iv 42]]]), (.tuple [iv 2, iv 2, iv 0], [])) ::
 ((20, [.agg [iv 6, .list 1 [iv 21, iv 42]], iv 0, iv 1]), (.tuple [.agg [iv 6, .own 1 [iv 42, iv 21]], iv 0], [])) ::
 ((30, [.agg [iv 4, .list 1 [iv 3]]]), (.tuple [.agg [iv 6, .own 1 [iv 35]], iv 0], [])) ::
 ((8, [.agg [iv 2, .list 1 [iv 1, iv 2]], .agg [iv 4, .list 1 [iv 15, iv 15]], .agg [iv 4, .list 1 [iv 6, iv 6]]]), (.tuple [.agg [iv 4, .own 1 [iv 7, iv 14]], iv 0], [])) :: knownT
theorem known_ok : lim F 6 [] = some (.bool true, []) := by
 refine lim_memo (n := 60) (m := 60) (t := knownU) rfl (fun x hx => ?_) (by kernel_rfl)
 unfold knownU at hx;rcases List.mem_cons.1 hx with rfl | hx
 ·exact bind_known
 rcases List.mem_cons.1 hx with rfl | hx
 ·exact never_known
 rcases List.mem_cons.1 hx with rfl | hx
 ·exact least_known
 rcases List.mem_cons.1 hx with rfl | hx
 ·exact shift_known
 rcases List.mem_cons.1 hx with rfl | hx
 ·exact reflect_known
 rcases List.mem_cons.1 hx with rfl | hx
 ·exact lay_known
 exact knownT_ok x hx
end Go.Abs
