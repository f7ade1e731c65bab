/-
 Chapter 3: what Make makes of one straight group over all hooks, by the kernel. No condition beyond those that each theorem names.
-/
import Derived.Test.YtgpbjihpkoiaiaaTB
import Derived.KernelRfl
set_option linter.all false
namespace Go.Abs
set_option maxRecDepth 100000
set_option maxHeartbeats 4000000
def strW (hk t : Nat) : List Nat := (List.replicate t (List.range hk)).flatten
noncomputable def mkOne (hk t : Nat) : Bool := match evalCall F 60 31 [iv (hk : Int),.list 4 [.agg [iv 0,iv ((hk : Int) - 1),iv 1,iv (t : Int)]]] with
 | some (r,[]) => AV.beq r (.tuple [.agg [iv (hk : Int),.own 1 (natsV (strW hk t))],iv 0,iv 0])
 | _ => false
noncomputable def mkChk (t : Nat) : Bool := (List.range 12).all fun k => mkOne (k + 1) t
theorem Make_of {hk t : Nat} (h4 : mkOne hk t = true) : lim F 31 [iv (hk : Int),.list 4 [.agg [iv 0,iv ((hk : Int) - 1),iv 1,iv (t : Int)]]] = some (.tuple [.agg [iv (hk : Int),.own 1 (natsV (strW hk t))],iv 0,iv 0],[]) := by
 unfold mkOne at h4;split at h4
 ·rename_i r hr
  rw [AV.beq_eq _ _ h4] at hr;exact lim_of_eval hr
 ·cases h4
theorem strW_len (hk t : Nat) : (strW hk t).length = t * hk := by
 unfold strW;rw [List.length_flatten,List.map_replicate,List.sum_replicate_nat,List.length_range]
theorem strW_lt (hk t : Nat) : ∀ w ∈ strW hk t,w < hk := fun w hw => by
 unfold strW at hw;rw [List.mem_flatten] at hw;obtain ⟨l,hl,hw⟩ := hw;rw [List.eq_of_mem_replicate hl] at hw;simpa using hw
theorem strW_at (hk : Nat) : ∀ (t i : Nat),i < t * hk → (strW hk t)[i]? = some (i % hk)
 | 0,i,h => by omega
 | t + 1,i,h => by
  have e : strW hk (t + 1) = List.range hk ++ strW hk t := by simp [strW,List.replicate_succ]
  rw [e];by_cases hi : i < hk
  ·rw [List.getElem?_append_left (by simpa using hi),List.getElem?_range hi,Nat.mod_eq_of_lt hi]
  ·rw [List.getElem?_append_right (by simpa using hi),List.length_range,strW_at hk t (i - hk) (by rw [Nat.succ_mul] at h; omega)]
   rw [Nat.mod_eq_sub_mod (show i ≥ hk by omega)]
theorem straight_ok {hk t : Nat} (h1 : 1 ≤ hk) (h2 : hk ≤ 24) (t1 : 1 ≤ t) (h3 : t * hk ≤ 96) : (⟨hk,strW hk t⟩ : HarN).Ok where
 h1 := h1
 h24 := h2
 w1 := by rw [strW_len]; exact Nat.mul_pos t1 h1
 w96 := by rw [strW_len]; exact h3
 lt := strW_lt hk t
@[simp] theorem pick_len (r : Nat) (ws : List Nat) : (pickB r ws).length = ws.length := by simp [pickB]
theorem cloth_at {rows ws : List Nat} {i : Nat} (h : i < rows.length) : (clothV rows ws)[i]? = some (strA (pickB (rows.getD i 0) ws)) := by
 unfold clothV;rw [List.getElem?_map,List.getElem?_eq_getElem h,List.getD_eq_getElem?_getD,List.getElem?_eq_getElem h]; rfl
theorem cloth_bad {rows ws : List Nat} (h : 1 ≤ rows.length) : (clothV rows ws).all AV.plain = false := by
 rw [List.all_eq_false];exact ⟨_,List.mem_of_getElem? (cloth_at (i := 0) (by omega)),by simp [AV.plain,AV.plain1]⟩
end Go.Abs
