/-
 Several texts: X12, X13, Y4, X14.
-/
import Derived.Test.YtodpkfillohplaaDoorX11
set_option linter.all false
namespace Go.Abs
set_option maxRecDepth 10000
set_option maxHeartbeats 4000000
def partsL (most : Nat) : Nat → Nat → List (List Nat)
 | 0, _ => [[]]
 | m + 1, a => (List.range (most - a)).flatMap fun i => (partsL most m (a + i + 1)).map fun l => (a + i) :: l
def partV (l : List Nat) : AV := .list 1 (natsV l)
def pV (l : List (List Nat)) : List (List AV) := l.map fun x => [partV x]
def partsIn (most m a i : Nat) : List (List Nat) := (partsL most m (a + i + 1)).map fun l => (a + i) :: l
def PartsG (most m : Nat) : Prop := ∀ (a : Nat), a ≤ 100 + most → ∀ xs : List (List AV), lim F 85 [.ylog none xs, .iptr (.agg [iv m]) 0, .iptr (.agg [iv a]) 0, .iptr (.agg [iv most]) 0] = some (.tuple [], [.ylog none (xs ++ pV (partsL most m a))])
def PartsK (most m : Nat) : Prop := ∀ (a : Nat), a ≤ 100 + most → lim F 85 [.ylog (some 0) (pV (partsL most m a)), .iptr (.agg [iv m]) 0, .iptr (.agg [iv a]) 0, .iptr (.agg [iv most]) 0] = some (.tuple [], [.ylog (some 0) []])
def PartsX (most m : Nat) : Prop := ∀ (a : Nat), a ≤ 100 + most → ∀ k, k < (partsL most m a).length → lim F 85 [.ylog (some 1) ((pV (partsL most m a)).take (k + 1)), .iptr (.agg [iv m]) 0, .iptr (.agg [iv a]) 0, .iptr (.agg [iv most]) 0] = some (.tuple [], [.ylog (some 1) []])
end Go.Abs
set_option linter.all false
namespace Go.Abs
set_option maxRecDepth 10000
set_option maxHeartbeats 4000000
def someN (s : List (List Nat)) (x : List Nat) : List (List Nat) := x.map fun k => s.getD k []
@[simp] theorem someN_len (s : List (List Nat)) (x : List Nat) : (someN s x).length = x.length := by simp [someN]
def isN (s : List (List Nat)) (n : Nat) (x : List Nat) : Bool := decide (joinN (someN s x) n = joinN s n)
def someV (s : List (List Nat)) (x : List Nat) (q : Nat) : List AV := ((someN s x).map listV).take q
end Go.Abs
set_option linter.all false
namespace Go.Abs
set_option maxRecDepth 10000
set_option maxHeartbeats 4000000
def setL (L b : Nat) : List Nat := (List.range L).filter fun i => b.testBit i
def lexL : List Nat → List Nat → Bool
 | a :: l, b :: m => if a = b then lexL l m else decide (a < b)
 | _, _ => false
def lessL (a b : List Nat) : Bool := if a.length = b.length then lexL a b else decide (a.length < b.length)
def Asc (l : List Nat) : Prop := l.Pairwise (· < ·)
def bestR (s : List (List Nat)) (n L : Nat) : Nat → List Nat
 | 0 => List.range L
 | k + 1 => if lessL (setL L (k + 1)) (bestR s n L k) = true ∧ isN s n (setL L (k + 1)) = true then setL L (k + 1) else bestR s n L k
end Go.Abs
set_option linter.all false
namespace Go.Abs
set_option maxRecDepth 10000
set_option maxHeartbeats 4000000
def subD (l : List DesN) (x : List Nat) : List DesN := x.map fun k => l.getD k ⟨0, []⟩
theorem subD_mem {l : List DesN} {x : List Nat} (hx : ∀ k ∈ x, k < l.length) : ∀ d ∈ subD l x, d ∈ l := fun d hd => by
 obtain ⟨k, hk, rfl⟩ := List.mem_map.1 hd;rw [List.getD_eq_getElem?_getD, List.getElem?_eq_getElem (hx k hk)];exact List.getElem_mem _
theorem SetsOk.sub {l : List DesN} {hk n : Nat} (h : SetsOk l hk n) {x : List Nat} (h1 : 1 ≤ x.length) (h10 : x.length ≤ 10) (hx : ∀ k ∈ x, k < l.length) : SetsOk (subD l x) hk n :=
 ⟨by simpa [subD] using h1, by simpa [subD] using h10, fun d hd => h.ok d (subD_mem hx d hd), fun d hd => h.hk d (subD_mem hx d hd), fun d hd => h.rows d (subD_mem hx d hd)⟩
@[simp] theorem subD_len (l : List DesN) (x : List Nat) : (subD l x).length = x.length := by simp [subD]
end Go.Abs
