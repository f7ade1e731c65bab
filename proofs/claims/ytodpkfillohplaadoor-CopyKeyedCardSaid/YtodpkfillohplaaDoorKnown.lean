/-
 Several texts: KC, Memo, KD, Known.
-/
import Derived.Test.YtodpkfillohplaaDoorFns
import Derived.Test.YtodpkfillohplaaDoorK
import Derived.Test.YtodpkfillohplaaDoorLim
import Derived.KernelRfl
import Derived.Test.YtodpkfillohplaaDoorRel
set_option linter.all false
namespace Go.Abs
set_option maxRecDepth 100000
set_option maxHeartbeats 0
theorem choose12_known : lim F 90 [iv 12, .agg [iv 1, iv 2]] = some (iv 1, []) := lim_of_eval (n := 60) (by kernel_rfl)
theorem choose8_known : lim F 90 [iv 8, .agg [iv 1, iv 2]] = some (iv 0, []) := lim_of_eval (n := 60) (by kernel_rfl)
theorem choose4_known : lim F 90 [iv 4, .agg [iv 1, iv 2]] = some (iv 1, []) := lim_of_eval (n := 60) (by kernel_rfl)
end Go.Abs
set_option linter.all false
namespace Go.Abs
abbrev Memo := List ((Nat × List AV) × (AV × List AV))
def memoFind (f : Nat) (args : List AV) : Memo → Option (AV × List AV)
 | [] => none
 | x :: t => if x.1.1 == f && AV.beqL x.1.2 args then some x.2 else memoFind f args t
noncomputable def memoCall (F : Nat → Option AFn) (n : Nat) (t : Memo) : CallF := fun f args => match memoFind f args t with
 | some r => some r
 | none => evalCall F n f args
theorem memoFind_mem {f : Nat} {args : List AV} {r : AV × List AV} : ∀ {t : Memo}, memoFind f args t = some r → ((f, args), r) ∈ t
 | [], h => by simp [memoFind] at h
 | ((g, xs), q) :: t, h => by
  simp only [memoFind] at h;split at h
  ·rename_i hc
   simp only [Bool.and_eq_true, beq_iff_eq] at hc;simp only [Option.some.injEq] at h;obtain ⟨rfl, h2⟩ := hc;rw [AV.beqL_eq _ _ h2, h];simp
  ·exact List.mem_cons_of_mem _ (memoFind_mem h)
theorem memo_le {F : Nat → Option AFn} {n : Nat} {t : Memo} (ht : ∀ x ∈ t, lim F x.1.1 x.1.2 = some x.2) : (memoCall F n t).le (lim F) := by
 intro f args r h;unfold memoCall at h;split at h
 ·rename_i q hq
  simp only [Option.some.injEq] at h;subst h;exact ht _ (memoFind_mem hq)
 ·exact lim_of_eval h
theorem lim_memo {F : Nat → Option AFn} {n m f : Nat} {t : Memo} {fn : AFn} {args : List AV} {r : AV × List AV} (hf : F f = some fn) (ht : ∀ x ∈ t, lim F x.1.1 x.1.2 = some x.2) (h : evalFn (memoCall F n t) m fn args = some r) : lim F f args = some r :=
 lim_intro (n := m) hf (evalFn_mono (memo_le ht) (Nat.le_refl m) h)
end Go.Abs
set_option linter.all false
namespace Go.Abs
set_option maxRecDepth 100000
set_option maxHeartbeats 0
abbrev d78 : AV := .agg [iv 4, .list 1 [iv 7, iv 8]]
abbrev d312 : AV := .agg [iv 4, .list 1 [iv 3, iv 12]]
abbrev d38 : AV := .agg [iv 4, .list 1 [iv 3, iv 8]]
theorem made_known : lim F 24 [iv 1, d78, d38] = some (.tuple [.bool true, iv 1, iv 0], []) := lim_of_eval (n := 60) (by kernel_rfl)
theorem first_known : lim F 17 [iv 1, .list 2 [d78, d312, d38]] = some (.tuple [.agg [iv 4, .own 1 [iv 7, iv 12]], iv 0], []) := lim_of_eval (n := 60) (by kernel_rfl)
theorem tree_known : lim F 26 [iv 1, .list 2 [d78, d312, d38]] = some (.tuple [.own 1 [iv (-1), iv (-1), iv 0], iv 3, iv 0], []) := lim_of_eval (n := 60) (by kernel_rfl)
theorem needed_known : lim F 27 [iv 1, .list 2 [d78, d312, d38]] = some (.tuple [.list 1 [iv 0, iv 1], iv 0], []) := lim_of_eval (n := 60) (by kernel_rfl)
theorem original_known : lim F 31 [iv 1, .list 2 [d78, d312, d38], iv 3] = some (.tuple [.agg [iv 4, .own 1 [iv 7, iv 12]], .agg [iv 4, .own 1 [iv 15, iv 15]], iv 0], []) := lim_of_eval (n := 60) (by kernel_rfl)
theorem count_known : lim F 32 [iv 1, .list 2 [d78, d312, d38], iv 3] = some (.tuple [iv 4, iv 0], []) := lim_of_eval (n := 60) (by kernel_rfl)
theorem keys_known : lim F 41 [d78] = some (.tuple [.own 1 [iv 303, iv 301], iv 0], []) := lim_of_eval (n := 60) (by kernel_rfl)
theorem wrong_known : lim F 42 [d78, .list 1 [iv 303, iv 302]] = some (.tuple [.own 1 [iv 1], iv 0], []) := lim_of_eval (n := 60) (by kernel_rfl)
def chooseT : Memo := [((90, [iv 12, .agg [iv 1, iv 2]]), (iv 1, [])), ((90, [iv 8, .agg [iv 1, iv 2]]), (iv 0, [])), ((90, [iv 4, .agg [iv 1, iv 2]]), (iv 1, []))]
theorem chooseT_ok : ∀ x ∈ chooseT, lim F x.1.1 x.1.2 = some x.2 := by
 intro x hx;unfold chooseT at hx;rcases List.mem_cons.1 hx with rfl | hx
 ·exact choose12_known
 rcases List.mem_cons.1 hx with rfl | hx
 ·exact choose8_known
 rcases List.mem_cons.1 hx with rfl | hx
 ·exact choose4_known
 cases hx
theorem card3_known : lim F 78 [.agg [iv 4, .bool false], iv 3, iv 303] = some (.agg [iv 7, iv 7, iv 1], []) := lim_memo (n := 60) (m := 60) (t := chooseT) rfl chooseT_ok (by kernel_rfl)
theorem card3T_ok : ∀ x ∈ ([((78, [.agg [iv 4, .bool false], iv 3, iv 303]), (.agg [iv 7, iv 7, iv 1], []))] : Memo), lim F x.1.1 x.1.2 = some x.2 := by
 intro x hx;rw [List.mem_singleton.1 hx];exact card3_known
theorem restore_known : lim F 46 [iv 1, .list 2 [d38], .list 1 [iv 303, iv (-1)]] = some (.tuple [.agg [iv 4, .own 1 [iv 7, iv 8]], .agg [iv 4, .own 1 [iv 7, iv 15]], iv 8, iv 0], []) := lim_memo (n := 60) (m := 60) rfl card3T_ok (by kernel_rfl)
end Go.Abs
set_option linter.all false
namespace Go.Abs
set_option maxRecDepth 100000
set_option maxHeartbeats 0
def knownT : Memo := ((24, [iv 1, d78, d38]), (.tuple [.bool true, iv 1, iv 0], [])) ::
 ((17, [iv 1, .list 2 [d78, d312, d38]]), (.tuple [.agg [iv 4, .own 1 [iv 7, iv 12]], iv 0], [])) ::
 ((26, [iv 1, .list 2 [d78, d312, d38]]), (.tuple [.own 1 [iv (-1), iv (-1), iv 0], iv 3, iv 0], [])) ::
 ((27, [iv 1, .list 2 [d78, d312, d38]]), (.tuple [.list 1 [iv 0, iv 1], iv 0], [])) ::
 ((31, [iv 1, .list 2 [d78, d312, d38], iv 3]), (.tuple [.agg [iv 4, .own 1 [iv 7, iv 12]], .agg [iv 4, .own 1 [iv 15, iv 15]], iv 0], [])) ::
 ((32, [iv 1, .list 2 [d78, d312, d38], iv 3]), (.tuple [iv 4, iv 0], [])) ::
 ((41, [d78]), (.tuple [.own 1 [iv 303, iv 301], iv 0], [])) ::
 ((42, [d78, .list 1 [iv 303, iv 302]]), (.tuple [.own 1 [iv 1], iv 0], [])) ::
 ((46, [iv 1, .list 2 [d38], .list 1 [iv 303, iv (-1)]]), (.tuple [.agg [iv 4, .own 1 [iv 7, iv 8]], .agg [iv 4, .own 1 [iv 7, iv 15]], iv 8, iv 0], [])) :: []
theorem known_ok : lim F 14 [] = some (.bool true, []) := by
 refine lim_memo (n := 60) (m := 60) (t := knownT) rfl (fun x hx => ?_) (by kernel_rfl)
 unfold knownT at hx;rcases List.mem_cons.1 hx with rfl | hx
 ·exact made_known
 rcases List.mem_cons.1 hx with rfl | hx
 ·exact first_known
 rcases List.mem_cons.1 hx with rfl | hx
 ·exact tree_known
 rcases List.mem_cons.1 hx with rfl | hx
 ·exact needed_known
 rcases List.mem_cons.1 hx with rfl | hx
 ·exact original_known
 rcases List.mem_cons.1 hx with rfl | hx
 ·exact count_known
 rcases List.mem_cons.1 hx with rfl | hx
 ·exact keys_known
 rcases List.mem_cons.1 hx with rfl | hx
 ·exact wrong_known
 rcases List.mem_cons.1 hx with rfl | hx
 ·exact restore_known
 cases hx
end Go.Abs
