/-
 What the proofs of contracts share: rules in the order of the code, evaluation of regions by simp, encodings of plain data.
-/
import Derived.Test.YtlcikiobkmajbaaEv
set_option linter.all false
namespace Go.Abs
abbrev iv (n : Int) : AV:=.int .i64 n
theorem wrap_id {n : Int} (h1 : -9223372036854775808≤n) (h2 : n < 9223372036854775808) : IntKind.wrap .i64 n = n:=by
 simp [IntKind.wrap,IntKind.signed,IntKind.bits]; omega
theorem bne_tt : (true != true) = false:=by decide
theorem bne_tf : (true != false) = true:=by decide
theorem bne_ft : (false != true) = true:=by decide
theorem bne_ff : (false != false) = false:=by decide
theorem bne_f (b : Bool) : (b != false) = b:=by cases b <;> rfl
theorem beq_tt : (true == true) = true:=by decide
theorem take_map_all {α β : Type} (f : α → β) (l : List α) : (l.map f).take l.length = l.map f:=by rw [List.take_of_length_le (by simp)]
attribute [go_sem] bne_tt bne_tf bne_ft bne_ff bne_f take_map_all wrap_id List.length_range List.length_replicate List.length_set List.length_take List.length_drop
end Go.Abs
