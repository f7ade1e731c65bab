/-
 What the proofs over the tables of math/bits share: designs and bytes, read as plain data; the tables, as the row says.
-/
import Derived.Test.YtkjlmfabhejbnaaDoorTie
import Derived.Test.YtkjlmfabhejbnaaDoorCards
import Derived.Test.YtkjlmfabhejbnaaDoorTop
import Derived.Test.YtkjlmfabhejbnaaDoorFlat
import Derived.Test.YtkjlmfabhejbnaaDoorP1
import Derived.Test.YtkjlmfabhejbnaaDoorD1
import Derived.Test.YtkjlmfabhejbnaaDoorFns
import Derived.WalkKit
import Derived.ProofKit
import Derived.OpenShut
import Derived.LaidMore
import Derived.MakeChecks
import Derived.Stop.LaidErr
import Derived.Lib.LaidTab
import Derived.SevenTiedAt
set_option linter.all false
namespace Go.Proofs.YtkjlmfabhejbnaaDoor
set_option maxRecDepth 100000
open Go.ChangeShapes Go.WideShapes Go.ChangeAt Go.RowKit Go.Abs
theorem own : ownKnob Tryd.prog.godebug = none := by kernel_rfl
theorem laidOut : laidOutB Tryd.prog = true := by kernel_rfl
theorem mixed : Tryd.prog.follows .mixedOrders = true := by kernel_rfl
def laid2 : List (String × DataW Unit) := [("math/bits.deBruijn32tab", Rows.laid_math_bits_deBruijn32tab), ("math/bits.deBruijn64tab", Rows.laid_math_bits_deBruijn64tab)]
theorem door_met (os : Os) (args : Array Value) : laidMetH Tryd.prog laid2 ((World.doorLaid Tryd.prog 64 os).forCall (fun _ _ => 0) ⟨#[], args, []⟩).memory :=
 laidMetH_of_parts3 (fuel := 8) (laidMet_of_run' 8 (by kernel_rfl) (by kernel_rfl)) (by kernel_rfl) (by kernel_rfl)
theorem gTab : Tryd.prog.globalNamed "math/bits.deBruijn64tab" = some 1 := by kernel_rfl
def tab64Z : List Int := [0, 1, 56, 2, 57, 49, 28, 3, 61, 58, 42, 50, 38, 29, 17, 4, 62, 47, 59, 36, 45, 43, 51, 22, 53, 39, 33, 30, 24, 18, 12, 5, 63, 55, 48, 27, 60, 41, 37, 16, 46, 35, 44, 21, 52, 32, 23, 11, 54, 26, 40, 15, 34, 20, 31, 10, 25, 14, 19, 9, 13, 8, 7, 6]
theorem glob_ok {W : World} (h : laidMetH Tryd.prog laid2 W) : GlobOk (fun b => b < W.heap.size) W := by
 rw [MakeChecks.laidMetH_plain _ _ _ (by kernel_rfl)] at h
 have h2 := laidMet.tail h;have h3 : laidMet Tryd.prog (("math/bits.deBruijn64tab", Lib.tabData .u8 tab64Z) :: []) W := h2;have hT := Lib.tabIs_of_head gTab (t := 121) (e := 5) (n := 64) (by kernel_rfl) (by kernel_rfl) (by kernel_rfl) (by kernel_rfl) (by kernel_rfl) h3
 have hc := fun i hi => hT.cell gTab i hi
 intro g cs hg;unfold globT at hg;simp only [lk] at hg;split at hg
 ·rename_i e
  subst e;obtain rfl := Option.some.inj hg;have hcell : ∀ i, i < 64 → W.cell? ⟨1, 0 + i, none⟩ = some (.int .u8 (tab64Z.getD i 0)) := fun i hi => by
   rw [Nat.zero_add]; exact hc i hi
  refine RelI.iptr 1 0 0 (.agg tab64V) (fun i => .int .u8 (tab64Z.getD i 0)) ?_ ?_ ?_ ?_
  ·have := World.block_lt_of_cell? W _ (hc 0 (by decide))
   simpa using this
  ·exact of_decide_eq_true (by decide +kernel)
  ·exact hcell
  ·intro i c hi
   have hl : i < 64 := (List.getElem?_eq_some_iff.1 hi).1;have : ∀ i, i < 64 → tab64V[i]? = some (.int .u8 (tab64Z.getD i 0)) := by
    intro i hi;have e : tab64V = tab64Z.map fun n => AV.int .u8 n := rfl
    rw [e, List.getElem?_map, List.getD_eq_getElem?_getD, List.getElem?_eq_getElem (show i < tab64Z.length from hi)]; rfl
   have e := this i hl;change tab64V[i]? = some c at hi;rw [e] at hi;obtain rfl := Option.some.inj hi;exact .int _ _
 ·cases hg
theorem cells3 : Tryd.prog.cellsOf 3 = 1 := by kernel_rfl
theorem rInt : ReadC Tryd.prog 3 1 Int (fun n => [iv n]) := .int Tryd.underlying3 cells3
theorem encInt : EncOk Tryd.prog 3 1 Int (fun n => iv n) := enc_int Tryd.underlying3 cells3
theorem rDes : ReadC Tryd.prog 24 2 DesA (fun x => [iv x.hk, .list 1 (x.rows.map fun n => iv n)]) := by
 have h := ReadC.struct Tryd.underlying24 (by kernel_rfl) (.cons rfl rInt (.cons rfl (.slice encInt Tryd.underlying22 (by kernel_rfl)) .nil))
 exact h.map (fun _ => rfl) fun x => ⟨⟨x.1, x.2.1⟩, rfl⟩
theorem readDes {H : Type} {enc : TypeId × Value → H} {W : World} {r : Reach} {b0 : Nat} {v : Value} {d : DataW H} {p : List MemPlace} (hv : Value.okWide Tryd.prog W r b0 24 v) (h : DataW.Trod enc Tryd.prog W 0 (fun _ => true) true 24 v d p) :
  ∃ x : DesA, RelI (fun b => b < W.heap.size) W v x.av := rDes.top (.inl ⟨_, Tryd.underlying24⟩) hv h
end Go.Proofs.YtkjlmfabhejbnaaDoor
