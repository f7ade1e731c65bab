/-
 Chapter 3: what Make makes of one straight group over all hooks, by the kernel. No condition beyond those that each theorem names.
-/
import Derived.Test.YtgpbjihpkoiaiaaTB
import Derived.KernelRfl
set_option linter.all false
namespace Go.Abs
set_option maxRecDepth 100000
set_option maxHeartbeats 4000000
def strW (hk t : Nat) : List Nat := (List.replicate t (List.range hk)).flatten
noncomputable def mkOne (hk t : Nat) : Bool := match evalCall F 60 31 [iv (hk : Int), .list 4 [.agg [iv 0, iv ((hk : Int) - 1), iv 1, iv (t : Int)]]] with
 | some (r, []) => AV.beq r (.tuple [.agg [iv (hk : Int), .own 1 (natsV (strW hk t))], iv 0, iv 0])
 | _ => false
noncomputable def mkChk (t : Nat) : Bool := (List.range 12).all fun k => mkOne (k + 1) t
@[simp] theorem pick_len (r : Nat) (ws : List Nat) : (pickB r ws).length = ws.length := by simp [pickB]
theorem cloth_at {rows ws : List Nat} {i : Nat} (h : i < rows.length) : (clothV rows ws)[i]? = some (strA (pickB (rows.getD i 0) ws)) := by
 unfold clothV;rw [List.getElem?_map, List.getElem?_eq_getElem h, List.getD_eq_getElem?_getD, List.getElem?_eq_getElem h]; rfl
theorem cloth_bad {rows ws : List Nat} (h : 1 ≤ rows.length) : (clothV rows ws).all AV.plain = false := by
 rw [List.all_eq_false];exact ⟨_, List.mem_of_getElem? (cloth_at (i := 0) (by omega)), by simp [AV.plain, AV.plain1]⟩
end Go.Abs
