/-
 Several texts: CW, CW2.
-/
import Derived.Test.YtodpkfillohplaaDoorTie
import Derived.Test.YtodpkfillohplaaDoorCards
import Derived.Test.YtodpkfillohplaaDoorTop
import Derived.Test.YtodpkfillohplaaDoorFlat
import Derived.Test.YtodpkfillohplaaDoorW2
import Derived.Test.YtodpkfillohplaaDoorFns
import Derived.WalkKit
import Derived.ProofKit
import Derived.OpenShut
import Derived.LaidMore
import Derived.MakeChecks
import Derived.Stop.LaidErr
import Derived.Lib.LaidTab
import Derived.SevenTiedAt
set_option linter.all false
namespace Go.Proofs.YtodpkfillohplaaDoor
set_option maxRecDepth 100000
open Go.ChangeShapes Go.WideShapes Go.ChangeAt Go.RowKit Go.Abs
theorem own : ownKnob Tryd.prog.godebug = none := by kernel_rfl
theorem laidOut : laidOutB Tryd.prog = true := by kernel_rfl
theorem mixed : Tryd.prog.follows .mixedOrders = true := by kernel_rfl
def laid2 : List (String × DataW Unit) := [("math/bits.deBruijn64tab", Rows.laid_math_bits_deBruijn64tab)]
theorem door_met (os : Os) (args : Array Value) : laidMetH Tryd.prog laid2 ((World.doorLaid Tryd.prog 64 os).forCall (fun _ _ => 0) ⟨#[], args, []⟩).memory :=
 laidMetH_of_parts3 (fuel := 8) (laidMet_of_run' 8 (by kernel_rfl) (by kernel_rfl)) (by kernel_rfl) (by kernel_rfl)
theorem gTab : Tryd.prog.globalNamed "math/bits.deBruijn64tab" = some 0 := by kernel_rfl
def tab64Z : List Int := [0, 1, 56, 2, 57, 49, 28, 3, 61, 58, 42, 50, 38, 29, 17, 4, 62, 47, 59, 36, 45, 43, 51, 22, 53, 39, 33, 30, 24, 18, 12, 5, 63, 55, 48, 27, 60, 41, 37, 16, 46, 35, 44, 21, 52, 32, 23, 11, 54, 26, 40, 15, 34, 20, 31, 10, 25, 14, 19, 9, 13, 8, 7, 6]
theorem glob_ok {W : World} (h : laidMetH Tryd.prog laid2 W) : GlobOk (fun b => b < W.heap.size) W := by
 rw [MakeChecks.laidMetH_plain _ _ _ (by kernel_rfl)] at h
 have h3 : laidMet Tryd.prog (("math/bits.deBruijn64tab", Lib.tabData .u8 tab64Z) :: []) W := h;have hT := Lib.tabIs_of_head gTab (t := 144) (e := 5) (n := 64) (by kernel_rfl) (by kernel_rfl) (by kernel_rfl) (by kernel_rfl) (by kernel_rfl) h3
 have hc := fun i hi => hT.cell gTab i hi
 intro g cs hg;unfold globT at hg;simp only [lk] at hg;split at hg
 ·rename_i e
  subst e;obtain rfl := Option.some.inj hg;have hcell : ∀ i, i < 64 → W.cell? ⟨0, 0 + i, none⟩ = some (.int .u8 (tab64Z.getD i 0)) := fun i hi => by
   rw [Nat.zero_add]; exact hc i hi
  refine RelI.iptr 0 0 0 (.agg tab64V) (fun i => .int .u8 (tab64Z.getD i 0)) ?_ ?_ ?_ ?_
  ·have := World.block_lt_of_cell? W _ (hc 0 (by decide))
   simpa using this
  ·exact of_decide_eq_true (by decide +kernel)
  ·exact hcell
  ·intro i c hi
   have hl : i < 64 := (List.getElem?_eq_some_iff.1 hi).1;have : ∀ i, i < 64 → tab64V[i]? = some (.int .u8 (tab64Z.getD i 0)) := by
    intro i hi;have e : tab64V = tab64Z.map fun n => AV.int .u8 n := rfl
    rw [e, List.getElem?_map, List.getD_eq_getElem?_getD, List.getElem?_eq_getElem (show i < tab64Z.length from hi)]; rfl
   have e := this i hl;change tab64V[i]? = some c at hi;rw [e] at hi;obtain rfl := Option.some.inj hi;exact .int _ _
 ·cases hg
theorem rByte : ReadC Tryd.prog 5 1 (Fin 256) (fun n => [.int .u8 (n.1 : Int)]) := .small 256 Tryd.underlying5 (by kernel_rfl) wf_u8
theorem rQuad : ReadC Tryd.prog 128 1 (Fin 4294967296) (fun n => [.int .u32 (n.1 : Int)]) := .small 4294967296 Tryd.underlying128 (by kernel_rfl) wf_u32
theorem encQuad : EncOk Tryd.prog 128 1 (Fin 4294967296) (fun n => .int .u32 (n.1 : Int)) := rQuad.enc (by omega) (fun _ => rfl) fun x a ha => by
 simp only [List.mem_cons, List.not_mem_nil, or_false] at ha;subst ha; rfl
theorem rThree : ReadC Tryd.prog 129 3 (Fin 256 × Fin 256 × Fin 256) (fun c => [.int .u8 (c.1.1 : Int), .int .u8 (c.2.1.1 : Int), .int .u8 (c.2.2.1 : Int)]) := by
 have h := ReadC.array Tryd.underlying129 rByte (m := 3) (by kernel_rfl) rfl
 exact h.map (fun _ => rfl) fun x => by
  obtain ⟨l, hl⟩ := x
  match l, hl with
  | [a, b, c], _ => exact ⟨(a, b, c), rfl⟩
theorem encThree : EncOk Tryd.prog 129 3 (Fin 256 × Fin 256 × Fin 256) threeV := rThree.enc (by omega) (fun _ => rfl) fun x a ha => by
 simp only [List.mem_cons, List.not_mem_nil, or_false] at ha;rcases ha with rfl | rfl | rfl <;> rfl
theorem rPress : ReadC Tryd.prog 82 4 PressB (fun x => [.int .u8 (x.hk.1 : Int), .list 1 (quadsV x.rows), .int .u8 (x.way.1 : Int), .list 3 (x.copies.map threeV)]) := by
 have h := ReadC.struct Tryd.underlying82 (by kernel_rfl) (.cons rfl rByte (.cons rfl (.slice encQuad Tryd.underlying79 (by kernel_rfl)) (.cons rfl rByte (.cons rfl (.slice encThree Tryd.underlying80 (by kernel_rfl)) .nil))))
 exact h.map (fun _ => rfl) fun x => ⟨⟨x.1, x.2.1, x.2.2.1, x.2.2.2.1⟩, rfl⟩
theorem readPress {H : Type} {enc : TypeId × Value → H} {W : World} {r : Reach} {b0 : Nat} {v : Value} {d : DataW H} {p : List MemPlace} (hv : Value.okWide Tryd.prog W r b0 82 v) (h : DataW.Trod enc Tryd.prog W 0 (fun _ => true) true 82 v d p) :
  ∃ x : PressB, RelI (fun b => b < W.heap.size) W v x.av := rPress.top (.inl ⟨_, Tryd.underlying82⟩) hv h
end Go.Proofs.YtodpkfillohplaaDoor
set_option linter.all false
namespace Go.Proofs.YtodpkfillohplaaDoor
set_option maxRecDepth 100000
open Go.ChangeShapes Go.WideShapes Go.ChangeAt Go.RowKit Go.Abs
theorem readByte {H : Type} {enc : TypeId × Value → H} {W : World} {r : Reach} {b0 : Nat} {v : Value} {d : DataW H} {p : List MemPlace} (hv : Value.okWide Tryd.prog W r b0 5 v) (h : DataW.Trod enc Tryd.prog W 0 (fun _ => true) true 5 v d p) :
  ∃ x : Fin 256, RelI (fun b => b < W.heap.size) W v (.int .u8 (x.1 : Int)) := by
 obtain ⟨x, rfl, _, _, w⟩ := open_int Tryd.underlying5 hv h;have := wf_u8 x w;exact ⟨⟨x.toNat, by omega⟩, by
  have e : ((⟨x.toNat, by omega⟩ : Fin 256).1 : Int) = x := by simp only; omega
  rw [e]; exact .int _ _⟩
end Go.Proofs.YtodpkfillohplaaDoor
