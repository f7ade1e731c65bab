/-
 PointProved: its arguments as they are read.
-/
import Derived.Test.YtkjlmfabhejbnaaLProved
import Derived.Test.YtkjlmfabhejbnaaKnown
set_option linter.all false
namespace Go.Abs
theorem pointProved_ok (x : PaperB) (n : Int) (hn : (0 : Int) ≤ n ∧ n ≤ 255) : lim F 8 [x.av, .int .u8 n] = some (.bool true, []) := by
 obtain ⟨k, rfl⟩ := Int.eq_ofNat_of_zero_le hn.1
 exact proved_main known_ok x k (by have := hn.2; omega)
end Go.Abs
