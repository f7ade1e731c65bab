/-
 What the proofs of this seat's statements share: rows, bytes and looms, read as plain data.
-/
import Derived.Test.YtgpbjihpkoiaiaaRows
import Derived.Test.YtgpbjihpkoiaiaaTop
import Derived.Test.YtgpbjihpkoiaiaaFlat
import Derived.Test.YtgpbjihpkoiaiaaFns
import Derived.WalkKit
import Derived.ProofKit
import Derived.OpenShut
set_option linter.all false
namespace Go.Proofs.Ytgpbjihpkoiaiaa
set_option maxRecDepth 100000
open Go.ChangeShapes Go.WideShapes Go.ChangeAt Go.RowKit Go.Abs
theorem own : ownKnob Try.prog.godebug = none := by kernel_rfl
theorem laidOut : laidOutB Try.prog = true := by kernel_rfl
theorem mixed : Try.prog.follows .mixedOrders = true := by kernel_rfl
theorem rByte : ReadC Try.prog 5 1 (Fin 256) (fun n => [.int .u8 (n.1 : Int)]) := .small 256 Try.underlying5 (by kernel_rfl) wf_u8
theorem encU8 : EncOk Try.prog 5 1 (Fin 256) (fun n => .int .u8 (n.1 : Int)) := rByte.enc (by omega) (fun _ => rfl) fun x a ha => by
 simp only [List.mem_cons,List.not_mem_nil,or_false] at ha;subst ha; rfl
theorem rU16 : ReadC Try.prog 26 1 (Fin 65536) (fun n => [.int .u16 (n.1 : Int)]) := .small 65536 Try.underlying26 (by kernel_rfl) wf_u16
theorem encU16 : EncOk Try.prog 26 1 (Fin 65536) (fun n => .int .u16 (n.1 : Int)) := rU16.enc (by omega) (fun _ => rfl) fun x a ha => by
 simp only [List.mem_cons,List.not_mem_nil,or_false] at ha;subst ha; rfl
theorem rLoom : ReadC Try.prog 25 4 (Fin 256 × List (Fin 256) × List (Fin 65536) × List (Fin 256) × Unit) (fun x => [.int .u8 (x.1.1 : Int),.list 1 (x.2.1.map fun r => .int .u8 (r.1 : Int)),.list 1 (x.2.2.1.map fun r => .int .u16 (r.1 : Int)),.list 1 (x.2.2.2.1.map fun r => .int .u8 (r.1 : Int))]) := by
 have h := ReadC.struct Try.underlying25 (by kernel_rfl) (.cons rfl rByte (.cons rfl (.slice encU8 Try.underlying22 (by kernel_rfl)) (.cons rfl (.slice encU16 Try.underlying23 (by kernel_rfl)) (.cons rfl (.slice encU8 Try.underlying22 (by kernel_rfl)) .nil))))
 exact h.map (fun _ => rfl) fun x => ⟨x,rfl⟩
theorem readLoom {H : Type} {enc : TypeId × Value → H} {W : World} {r : Reach} {b0 : Nat} {v : Value} {d : DataW H} {p : List MemPlace} (hv : Value.okWide Try.prog W r b0 25 v) (h : DataW.Trod enc Try.prog W 0 (fun _ => true) true 25 v d p) :
  ∃ x : Fin 256 × List (Fin 256) × List (Fin 65536) × List (Fin 256) × Unit,RelI (fun b => b < W.heap.size) W v (.agg [.int .u8 (x.1.1 : Int),.list 1 (x.2.1.map fun r => .int .u8 (r.1 : Int)),.list 1 (x.2.2.1.map fun r => .int .u16 (r.1 : Int)),.list 1 (x.2.2.2.1.map fun r => .int .u8 (r.1 : Int))]) := rLoom.top (.inl ⟨_,Try.underlying25⟩) hv h
end Go.Proofs.Ytgpbjihpkoiaiaa
