/-
 Several texts: G3, G4, G6.
-/
import Derived.Test.YtgpbjihpkoiaiaaG2
set_option linter.all false
namespace Go.Abs.Beam
set_option maxRecDepth 10000
set_option maxHeartbeats 1000000
def firstP (p : Nat → Bool) (N : Nat) : Nat := (List.range N).findIdx p
theorem wrap_u64 {n : Int} (h1 : 0 ≤ n) (h2 : n < 18446744073709551616) : IntKind.wrap .u64 n = n := by
 simp [IntKind.wrap, IntKind.signed, IntKind.bits]; omega
end Go.Abs.Beam
set_option linter.all false
namespace Go.Abs.Beam
set_option maxRecDepth 10000
set_option maxHeartbeats 1000000
abbrev SpanOk (a b least most : Int) : Prop := least ≤ a ∧ a ≤ b ∧ b ≤ most
def insideV (a b n : Int) : Int := a + n % (b - a + 1)
end Go.Abs.Beam
set_option linter.all false
namespace Go.Abs.Beam
set_option maxRecDepth 10000
set_option maxHeartbeats 2000000
def longR (n d p r : Int) : Int := p * n * (1000 - r) / (d * 1000)
structure ROk (n d p : Int) : Prop where
 n0 : 1 ≤ n
 n1 : n ≤ 25000000000
 d0 : 1 ≤ d
 d1 : d ≤ 1000000
 p0 : 0 ≤ p
 p1 : p ≤ 100000
theorem ROk.a {n d p : Int} (h : ROk n d p) : 0 ≤ p * n ∧ p * n ≤ 2500000000000000 := by
 have h1 : 0 ≤ p * n := Int.mul_nonneg h.p0 (by have := h.n0; omega)
 have h2 := Int.mul_le_mul h.p1 h.n1 (by have := h.n0; omega) (by omega)
 exact ⟨h1, by omega⟩
theorem ROk.b {n d p r : Int} (h : ROk n d p) (h0 : 0 ≤ r) (h1 : r ≤ 1000) : 0 ≤ p * n * (1000 - r) ∧ p * n * (1000 - r) ≤ 2500000000000000000 := by
 have ha := h.a;have h1' : 0 ≤ p * n * (1000 - r) := Int.mul_nonneg ha.1 (by omega)
 have h2 := Int.mul_le_mul ha.2 (show 1000 - r ≤ 1000 by omega) (by omega) (by omega)
 exact ⟨h1', by omega⟩
theorem ROk.l {n d p r : Int} (h : ROk n d p) (h0 : 0 ≤ r) (h1 : r ≤ 1000) : 0 ≤ longR n d p r ∧ longR n d p r ≤ 2500000000000000000 := by
 have hb := h.b h0 h1;have hd := h.d0;have h3 : 0 ≤ longR n d p r := Int.ediv_nonneg hb.1 (by omega)
 have h4 : longR n d p r ≤ p * n * (1000 - r) := Int.ediv_le_self _ hb.1;exact ⟨h3, by omega⟩
theorem ROk.mono {n d p r r' : Int} (h : ROk n d p) (h0 : r ≤ r') : longR n d p r' ≤ longR n d p r := by
 have ha := h.a;have h1 : p * n * (1000 - r') ≤ p * n * (1000 - r) := Int.mul_le_mul_of_nonneg_left (by omega) ha.1
 exact Int.ediv_le_ediv (by have := h.d0; omega) h1
def longT (t : TakeA) (p r : Int) : Int := longR (nT t) (dT t) p r
def figE (t : TakeA) (a b p : Int) : Int := if checkT t = 0 then if SpanOk a b 0 200 then if 1 ≤ p ∧ p ≤ 100000 then 0 else 3 else 2 else checkT t
end Go.Abs.Beam
