/-
  What the proofs of contracts share: rules in the order of the code, evaluation of regions by simp, encodings of plain data.
-/
import Derived.Test.YtfokmdhmaabegaaEv
set_option linter.all false
namespace Go.Abs

abbrev iv (n : Int) : AV := .int .i64 n

theorem wrap_id {n : Int} (h1 : -9223372036854775808 ≤ n) (h2 : n < 9223372036854775808) : IntKind.wrap .i64 n = n := by
  simp [IntKind.wrap, IntKind.signed, IntKind.bits]; omega

attribute [go_sem] wrap_id List.length_range List.length_replicate List.length_set List.length_take List.length_drop
end Go.Abs
