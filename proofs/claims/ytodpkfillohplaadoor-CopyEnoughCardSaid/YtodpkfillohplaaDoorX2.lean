/-
 Chapter 12: keys of cards, lists that are held against each other. No condition beyond those that each theorem names.
-/
import Derived.Test.YtodpkfillohplaaDoorP1
import Derived.Test.YtodpkfillohplaaDoorY2
import Derived.Test.YtodpkfillohplaaDoorB6
set_option linter.all false
namespace Go.Abs
set_option maxRecDepth 10000
set_option maxHeartbeats 4000000
theorem bit_eq (r h : Nat) : decide (((r >>> h &&& 1 : Nat) : Int) = 1) = r.testBit h := by
 rw [shr_and1];cases r.testBit h <;> simp
theorem subN_eq {a b : Nat} (h : a < 9223372036854775808) : andN a b = subN a b := by
 apply Nat.eq_of_testBit_eq;intro j;rw [andN_bit h, subN_bit]
theorem bits_le (r : Nat) : bitsN r 24 ≤ 24 := by
 unfold bitsN;exact Nat.le_trans (List.length_filter_le _ _) (by simp)
def natsV (l : List Nat) : List AV := l.map fun n : Nat => iv (n : Int)
@[simp] theorem nats_len (l : List Nat) : (natsV l).length = l.length := by simp [natsV]
theorem nats_at {l : List Nat} {i : Nat} (h : i < l.length) : (natsV l)[i]? = some (iv ((l.getD i 0 : Nat) : Int)) := by
 unfold natsV;rw [List.getElem?_map, List.getD_eq_getElem?_getD, List.getElem?_eq_getElem h]; rfl
@[go_sem] theorem nats_plain (l : List Nat) : (natsV l).all AV.plain = true := nat_plain l
theorem rows_get {l : List Nat} {i : Nat} (h : i < l.length) : l.getD i 0 = l[i] := by
 rw [List.getD_eq_getElem?_getD, List.getElem?_eq_getElem h]; rfl
theorem DesN.Ok.at {d : DesN} (h : d.Ok) {i : Nat} (hi : i < d.rows.length) : d.rows.getD i 0 < 2 ^ d.hk := by
 rw [rows_get hi]; exact h.lt _ (List.getElem_mem hi)
theorem DesN.Ok.at24 {d : DesN} (h : d.Ok) {i : Nat} (hi : i < d.rows.length) : d.rows.getD i 0 < 2 ^ 24 :=
 Nat.lt_of_lt_of_le (h.at hi) (Nat.pow_le_pow_right (by omega) h.h24)
def keysTo (d : DesN) (i : Nat) : List Nat := (List.range i).map fun i => keyN (d.rows.getD i 0)
@[simp] theorem keysTo_len (d : DesN) (i : Nat) : (keysTo d i).length = i := by simp [keysTo]
def setV (d : DesN) : AV := .agg [iv (d.hk : Int), .list 1 (natsV d.rows)]
theorem setV_av (d : DesN) : d.a.av = setV d := DesN.a_av d
def keysE (n : Nat) (l : List Int) : Int := if l.length ≠ n then 4 else if l.all (fun k => decide (-1 ≤ k ∧ k ≤ 27624)) then 0 else 2
end Go.Abs
