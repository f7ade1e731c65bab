/-
 What the proof of TopReadyChain shares: words, and lists of lists of bytes, read as plain data.
-/
import Derived.Test.YtlcikiobkmajbaaCL
set_option linter.all false
namespace Go.Proofs.Ytlcikiobkmajbaa
set_option maxRecDepth 100000
open Go.ChangeShapes Go.WideShapes Go.ChangeAt Go.RowKit Go.Abs
theorem rWord : ReadC Try.prog 84 1 (Fin 65536) (fun n=>[.int .u16 (n.1 : Int)]):=.small 65536 Try.underlying84 (by kernel_rfl) wf_u16
theorem encU16 : EncOk Try.prog 84 1 (Fin 65536) (fun n=>.int .u16 (n.1 : Int)):=rWord.enc (by omega) (fun _=>rfl) fun x a ha => by
 simp only [List.mem_cons,List.not_mem_nil,or_false] at ha;subst ha; rfl
theorem rMix : ReadC Try.prog 58 1 (List (Fin 256)) (fun l=>[.list 1 (l.map fun n=>.int .u8 (n.1 : Int))]):=.slice encU8 Try.underlying58 (by kernel_rfl)
theorem rMixes : ReadC Try.prog 72 1 (List (List (Fin 256))) (fun l=>[.list 1 (l.map fun m=>.list 1 (m.map fun n=>.int .u8 (n.1 : Int)))]) :=
 .sliceC rMix (by omega) (fun _=>rfl) (fun x a ha => by
  simp only [List.mem_cons,List.not_mem_nil,or_false] at ha;subst ha; rfl) Try.underlying72 (by kernel_rfl)
theorem readMixes {H : Type} {enc : TypeId × Value → H} {W : World} {r : Reach} {b0 : Nat} {v : Value} {d : DataW H} {p : List MemPlace} (hv : Value.okWide Try.prog W r b0 72 v) (h : DataW.Trod enc Try.prog W 0 (fun _=>true) true 72 v d p) :
  ∃ x : List (List (Fin 256)),RelI (fun b=>b < W.heap.size) W v (.list 1 (x.map fun m=>.list 1 (m.map fun n=>.int .u8 (n.1 : Int)))):=rMixes.topS Try.underlying72 hv h
end Go.Proofs.Ytlcikiobkmajbaa
