/-
  What the proofs of chapter 6's statements share: lists of bytes, read as plain data.
-/
import Derived.Test.YtbmihapnaclidaaC3
set_option linter.all false
namespace Go.Proofs.Ytbmihapnaclidaa
set_option maxRecDepth 100000
open Go.ChangeShapes Go.WideShapes Go.ChangeAt Go.RowKit Go.Abs

theorem encB : EncOk Try.prog 5 1 (Fin 256) (fun n => .int .u8 (n.1 : Int)) := rByte.enc (by omega) (fun _ => rfl) fun x a ha => by
  rw [List.mem_singleton.1 ha]; rfl
end Go.Proofs.Ytbmihapnaclidaa
