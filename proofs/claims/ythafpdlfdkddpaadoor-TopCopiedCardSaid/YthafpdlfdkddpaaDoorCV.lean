/-
 What the proofs over the tables of math/bits share: rows and bytes, read as plain data; the tables, as the row says.
-/
import Derived.Test.YthafpdlfdkddpaaDoorTie
import Derived.Test.YthafpdlfdkddpaaDoorCards
import Derived.Test.YthafpdlfdkddpaaDoorTop
import Derived.Test.YthafpdlfdkddpaaDoorFlat
import Derived.Test.YthafpdlfdkddpaaDoorP1
import Derived.Test.YthafpdlfdkddpaaDoorFns
import Derived.WalkKit
import Derived.ProofKit
import Derived.OpenShut
import Derived.LaidMore
import Derived.MakeChecks
import Derived.Stop.LaidErr
import Derived.Lib.LaidTab
import Derived.SevenTiedAt
set_option linter.all false
namespace Go.Proofs.YthafpdlfdkddpaaDoor
set_option maxRecDepth 100000
open Go.ChangeShapes Go.WideShapes Go.ChangeAt Go.RowKit Go.Abs

theorem own : ownKnob Tryd.prog.godebug = none := by kernel_rfl
theorem laidOut : laidOutB Tryd.prog = true := by kernel_rfl
theorem mixed : Tryd.prog.follows .mixedOrders = true := by kernel_rfl

/-- the tables, as each row of the seat lists them -/
def laid2 : List (String × DataW Unit) := [("math/bits.deBruijn32tab", Rows.laid_math_bits_deBruijn32tab), ("math/bits.deBruijn64tab", Rows.laid_math_bits_deBruijn64tab)]
theorem door_met (os : Os) (args : Array Value) : laidMetH Tryd.prog laid2 ((World.doorLaid Tryd.prog 64 os).forCall (fun _ _ => 0) ⟨#[], args, []⟩).memory :=
 laidMetH_of_parts3 (fuel := 8) (laidMet_of_run' 8 (by kernel_rfl) (by kernel_rfl)) (by kernel_rfl) (by kernel_rfl)
theorem gTab : Tryd.prog.globalNamed "math/bits.deBruijn64tab" = some 1 := by kernel_rfl
def tab64Z : List Int := [0, 1, 56, 2, 57, 49, 28, 3, 61, 58, 42, 50, 38, 29, 17, 4, 62, 47, 59, 36, 45, 43, 51, 22, 53, 39, 33, 30, 24, 18, 12, 5, 63, 55, 48, 27, 60, 41, 37, 16, 46, 35, 44, 21, 52, 32, 23, 11, 54, 26, 40, 15, 34, 20, 31, 10, 25, 14, 19, 9, 13, 8, 7, 6]
theorem glob_ok {W : World} (h : laidMetH Tryd.prog laid2 W) : GlobOk (fun b => b < W.heap.size) W := by
 rw [MakeChecks.laidMetH_plain _ _ _ (by kernel_rfl)] at h
 have h2 := laidMet.tail h
 have h3 : laidMet Tryd.prog (("math/bits.deBruijn64tab", Lib.tabData .u8 tab64Z) :: []) W := h2
 have hT := Lib.tabIs_of_head gTab (t := 110) (e := 5) (n := 64) (by kernel_rfl) (by kernel_rfl) (by kernel_rfl) (by kernel_rfl) (by kernel_rfl) h3
 have hc := fun i hi => hT.cell gTab i hi
 intro g cs hg
 unfold globT at hg
 simp only [lk] at hg
 split at hg
 ·rename_i e
  subst e
  obtain rfl := Option.some.inj hg
  have hcell : ∀ i, i < 64 → W.cell? ⟨1, 0 + i, none⟩ = some (.int .u8 (tab64Z.getD i 0)) := fun i hi => by
   rw [Nat.zero_add]; exact hc i hi
  refine RelI.iptr 1 0 0 (.agg tab64V) (fun i => .int .u8 (tab64Z.getD i 0)) ?_ ?_ ?_ ?_
  ·have := World.block_lt_of_cell? W _ (hc 0 (by decide))
   simpa using this
  ·exact of_decide_eq_true (by decide +kernel)
  ·exact hcell
  ·intro i c hi
   have hl : i < 64 := (List.getElem?_eq_some_iff.1 hi).1
   have : ∀ i, i < 64 → tab64V[i]? = some (.int .u8 (tab64Z.getD i 0)) := by
    intro i hi
    have e : tab64V = tab64Z.map fun n => AV.int .u8 n := rfl
    rw [e, List.getElem?_map, List.getD_eq_getElem?_getD, List.getElem?_eq_getElem (show i < tab64Z.length from hi)]; rfl
   have e := this i hl
   change tab64V[i]? = some c at hi
   rw [e] at hi
   obtain rfl := Option.some.inj hi
   exact .int _ _
 ·cases hg

theorem rByte : ReadC Tryd.prog 5 1 (Fin 256) (fun n => [.int .u8 (n.1 : Int)]) := .small 256 Tryd.underlying5 (by kernel_rfl) wf_u8
theorem encU8 : EncOk Tryd.prog 5 1 (Fin 256) (fun n => .int .u8 (n.1 : Int)) := rByte.enc (by omega) (fun _ => rfl) fun x a ha => by
 simp only [List.mem_cons, List.not_mem_nil, or_false] at ha
 subst ha; rfl
theorem rU16 : ReadC Tryd.prog 45 1 (Fin 65536) (fun n => [.int .u16 (n.1 : Int)]) := .small 65536 Tryd.underlying45 (by kernel_rfl) wf_u16
theorem encU16 : EncOk Tryd.prog 45 1 (Fin 65536) (fun n => .int .u16 (n.1 : Int)) := rU16.enc (by omega) (fun _ => rfl) fun x a ha => by
 simp only [List.mem_cons, List.not_mem_nil, or_false] at ha
 subst ha; rfl
theorem rWords : ReadC Tryd.prog 22 1 (List (Fin 65536)) (fun l => [.list 1 (l.map fun n => .int .u16 (n.1 : Int))]) := .slice encU16 Tryd.underlying22 (by kernel_rfl)
theorem readWords {H : Type} {enc : TypeId × Value → H} {W : World} {r : Reach} {b0 : Nat} {v : Value} {d : DataW H} {p : List MemPlace} (hv : Value.okWide Tryd.prog W r b0 22 v) (h : DataW.Trod enc Tryd.prog W 0 (fun _ => true) true 22 v d p) :
  ∃ x : List (Fin 65536), RelI (fun b => b < W.heap.size) W v (.list 1 (x.map fun n => .int .u16 (n.1 : Int))) := rWords.topS Tryd.underlying22 hv h
theorem rBytes : ReadC Tryd.prog 47 1 (List (Fin 256)) (fun l => [.list 1 (l.map fun n => .int .u8 (n.1 : Int))]) := .slice encU8 Tryd.underlying47 (by kernel_rfl)
theorem rLists : ReadC Tryd.prog 23 1 (List (List (Fin 256))) (fun l => [.list 1 (l.map fun b => .list 1 (b.map fun n => .int .u8 (n.1 : Int)))]) :=
 .sliceC rBytes (by omega) (fun _ => rfl) (fun x a ha => by
  simp only [List.mem_cons, List.not_mem_nil, or_false] at ha
  subst ha; rfl) Tryd.underlying23 (by kernel_rfl)
theorem readLists {H : Type} {enc : TypeId × Value → H} {W : World} {r : Reach} {b0 : Nat} {v : Value} {d : DataW H} {p : List MemPlace} (hv : Value.okWide Tryd.prog W r b0 23 v) (h : DataW.Trod enc Tryd.prog W 0 (fun _ => true) true 23 v d p) :
  ∃ x : List (List (Fin 256)), RelI (fun b => b < W.heap.size) W v (.list 1 (x.map fun b => .list 1 (b.map fun n => .int .u8 (n.1 : Int)))) := rLists.topS Tryd.underlying23 hv h
theorem readByte {H : Type} {enc : TypeId × Value → H} {W : World} {r : Reach} {b0 : Nat} {v : Value} {d : DataW H} {p : List MemPlace} (hv : Value.okWide Tryd.prog W r b0 5 v) (h : DataW.Trod enc Tryd.prog W 0 (fun _ => true) true 5 v d p) :
  ∃ x : Fin 256, RelI (fun b => b < W.heap.size) W v (.int .u8 (x.1 : Int)) := by
 obtain ⟨x, rfl, _, _, w⟩ := open_int Tryd.underlying5 hv h
 have := wf_u8 x w
 exact ⟨⟨x.toNat, by omega⟩, by
  have e : ((⟨x.toNat, by omega⟩ : Fin 256).1 : Int) = x := by simp only; omega
  rw [e]; exact .int _ _⟩
end Go.Proofs.YthafpdlfdkddpaaDoor
