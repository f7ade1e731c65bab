/-
 What the proof of TopSeamDays shares: lengths in bytes, three for an order, read as plain data.
-/
import Derived.Test.YtlcikiobkmajbaaCL
import Derived.Test.YtlcikiobkmajbaaLE3
set_option linter.all false
namespace Go.Proofs.Ytlcikiobkmajbaa
set_option maxRecDepth 100000
open Go.ChangeShapes Go.WideShapes Go.ChangeAt Go.RowKit Go.Abs
theorem rCut : ReadC Try.prog 60 2 CutY (fun c => [.int .u8 (c.1.1 : Int),.int .u8 (c.2.1 : Int)]):=by
 have h:=ReadC.array Try.underlying60 rByte (m:=2) (by kernel_rfl) rfl
 exact h.map (fun _ => rfl) fun x => by
  obtain ⟨l,hl⟩:=x
  match l,hl with
  | [a,b],_ => exact ⟨(a,b),rfl⟩
theorem rCuts : ReadC Try.prog 61 6 RowY (fun x => [.int .u8 (x.1.1.1 : Int),.int .u8 (x.1.2.1 : Int),.int .u8 (x.2.1.1.1 : Int),.int .u8 (x.2.1.2.1 : Int),.int .u8 (x.2.2.1.1 : Int),.int .u8 (x.2.2.2.1 : Int)]):=by
 have h:=ReadC.array Try.underlying61 rCut (m:=6) (by kernel_rfl) rfl
 exact h.map (fun _ => rfl) fun x => by
  obtain ⟨l,hl⟩:=x
  match l,hl with
  | [a,b,c],_ => exact ⟨(a,b,c),rfl⟩
theorem encCuts : EncOk Try.prog 61 6 RowY rowY:=rCuts.enc (by omega) (fun _ => rfl) fun x a ha => by
 simp only [List.mem_cons,List.not_mem_nil,or_false] at ha;rcases ha with rfl | rfl | rfl | rfl | rfl | rfl <;> rfl
end Go.Proofs.Ytlcikiobkmajbaa
