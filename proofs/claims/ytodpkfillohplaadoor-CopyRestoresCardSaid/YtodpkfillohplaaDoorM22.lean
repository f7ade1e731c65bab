/-
 The tables of the lowest bit. Plain Lean: no program in sight.
-/
import Derived.Test.YtodpkfillohplaaDoorM20
set_option linter.all false
namespace Go.Abs

/-- where each lowest bit lies, by the topmost six bits of a product -/
def tab64 : List Nat := [0, 1, 56, 2, 57, 49, 28, 3, 61, 58, 42, 50, 38, 29, 17, 4, 62, 47, 59, 36, 45, 43, 51, 22, 53, 39, 33, 30, 24, 18, 12, 5, 63, 55, 48, 27, 60, 41, 37, 16, 46, 35, 44, 21, 52, 32, 23, 11, 54, 26, 40, 15, 34, 20, 31, 10, 25, 14, 19, 9, 13, 8, 7, 6]
def tab32 : List Nat := [0, 1, 28, 2, 29, 14, 24, 3, 30, 22, 20, 15, 25, 17, 4, 8, 31, 27, 13, 23, 21, 19, 16, 7, 26, 12, 18, 6, 11, 5, 10, 9]
theorem tab64_at : ∀ k, k < 64 → tab64[(2 ^ k * 0x03f79d71b4ca8b09 % 2 ^ 64) / 2 ^ 58]? = some k := by decide +kernel
theorem low_tab {x k : Nat} (h : LowBit x k) (hx : x < 2 ^ 64) : tab64[((x &&& (2 ^ 64 - x)) * 0x03f79d71b4ca8b09 % 2 ^ 64) / 2 ^ 58]? = some k := by
 rw [h.neg hx]
 exact tab64_at k (h.lt hx)
end Go.Abs
