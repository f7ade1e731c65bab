/-
 Rows repeat by the least repeat: plain Lean. No condition beyond those that each theorem names.
-/
import Derived.Test.YtgpbjihpkoiaiaaU1
import Derived.Test.YtgpbjihpkoiaiaaM18
set_option linter.all false
namespace Go.Abs
theorem row_periodP {d : DesN} (hd : d.Ok) (p : Nat) (hp : p < d.rows.length) : d.rows.getD p 0 = d.rows.getD (p % leastP d) 0 := by
 obtain ⟨⟨a1, a2, a3⟩, -, h⟩ := least_facts hd;have hn := hd.r1;have l2 : p % leastP d < d.rows.length := Nat.lt_of_lt_of_le (Nat.mod_lt _ (by omega)) a2
 have m1 := hd.lt _ (show d.rows.getD p 0 ∈ d.rows by rw [List.getD_eq_getElem?_getD, List.getElem?_eq_getElem hp]; exact List.getElem_mem hp)
 have m2 := hd.lt _ (show d.rows.getD (p % leastP d) 0 ∈ d.rows by rw [List.getD_eq_getElem?_getD, List.getElem?_eq_getElem l2]; exact List.getElem_mem l2)
 refine row_eq m1 m2 fun j hj => ?_
 have h1 := h p j hp hj;have h2 := h (p % leastP d) j l2 hj;rw [Nat.mod_mod] at h2;have h3 := h1.trans h2.symm;simpa [atN, Nat.mod_eq_of_lt hp, Nat.mod_eq_of_lt hj, Nat.mod_eq_of_lt l2] using h3
end Go.Abs
